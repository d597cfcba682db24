/- Any program is told to be one, or where it isn't: the walk of the law. -/
import Derived.Test.YthlllcmffgdcmabZLaws1
section
namespace Go.Proofs.Ythlllcmffgdcmab.Code
open Go.RowKit Go.Proofs.YthlllcmffgdcmabW.PrintWords Go.Proofs.YthlllcmffgdcmabW.PrintLast Go.Proofs.YthlllcmffgdcmabW.PrintMore
open Go.Proofs.Ythlllcmffgdcmab.PCodeChecks
set_option linter.unusedVariables false
set_option linter.unusedSimpArgs false
theorem eqA116 (d : Nat) (w : World) (x0 y0 : Int) (x1 y1 : Int) (x2 y2 : Int) :
    (Op.equalIn (d + 2) 116 (.agg #[.int .i64 x0, .int .i64 x1, .int .i64 x2]) (.agg #[.int .i64 y0, .int .i64 y1, .int .i64 y2])).run Try.prog w = .ok (x0 == y0 && (x1 == y1 && (x2 == y2))) w := by
  refine eqA_of Try.underlying116 (by kernel_rfl) ?_
  refine eqf_cons (by rfl) (by go_simp; rfl) (by go_simp; rfl) (by go_simp) ?_
  refine eqf_cons (by rfl) (by go_simp; rfl) (by go_simp; rfl) (by go_simp) ?_
  exact eqf_last (by rfl) (by go_simp; rfl) (by go_simp; rfl) (by go_simp)
attribute [local go_sem high] eqA116
def chk7_T : Bool × List (List Nat × List Nat) := (true, [([], []), ([0], [0]), ([], []), ([], []), ([3], [3]), ([4], [4]), ([2, 5], [2, 5]), ([1, 6], [1, 6]), ([7, 6, 0, 1, 2, 3, 4, 5, 6, 7], [7])])
theorem chk7_tab : rtab .any (opsOf Try.f13 7) = chk7_T := by kernel_rfl
def cW (w : World) (p c : Array Value) : World := (w.alloc (.cells p 112)).alloc (.cells c 112)
theorem cW_below (w : World) (p c : Array Value) : Below w.heap.size w (cW w p c) := below_alloc (below_alloc (Below.refl _ _) _) _
theorem cW_p (w : World) (p c : Array Value) : (cW w p c).heap[w.heap.size]? = some (.cells p 112 (0, 0)) := blk_alloc (blk_new w _) _
theorem cW_c (w : World) (p c : Array Value) : (cW w p c).heap[w.heap.size + 1]? = some (.cells c 112 (0, 0)) := by
  have := blk_new (w.alloc (.cells p 112)) (.cells c 112)
  rwa [show (w.alloc (.cells p 112)).heap.size = w.heap.size + 1 by simp] at this
structure RD (w : World) (A0 A1 A3 : Option Addr) (c0 c1 c3 : Nat) (l0 : List (List S128)) (l1 : List Int) (l3 : List S134) : Prop where
  a : Kd.C (Kd.slice 128 k128) w A0 l0.length l0
  b : l0.length ≤ c0
  c : Kd.C (Kd.int .i64) w A1 l1.length l1
  d : l1.length ≤ c1
  e : Kd.C k134 w A3 l3.length l3
  f : l3.length ≤ c3
theorem RD.below {w w' : World} {A0 A1 A3 : Option Addr} {c0 c1 c3 : Nat} {l0 : List (List S128)} {l1 : List Int} {l3 : List S134} (h : RD w A0 A1 A3 c0 c1 c3 l0 l1 l3) (hb : Below w.heap.size w w') : RD w' A0 A1 A3 c0 c1 c3 l0 l1 l3 :=
  ⟨Kd.C_below h.a hb, h.b, Kd.C_below h.c hb, h.d, Kd.C_below h.e hb, h.f⟩
set_option maxHeartbeats 8000000 in
set_option maxRecDepth 100000 in
theorem checks_law (A0 A1 A3 : Option Addr) (c0 c1 c3 : Nat) (l0 : List (List S128)) (l1 : List Int) (l3 : List S134) (locks : Int) (Z0 Z1 Z3 : Option Addr) (d0 d1 d3 : Nat) (r0 : List (List S128)) (r1 : List Int) (r3 : List S134) (rlk : Int) (fa ata wha toa : Int) (w : World)
    (hr0 : Kd.C (Kd.slice 128 k128) w A0 l0.length l0) (hc0 : l0.length ≤ c0) (hr1 : Kd.C (Kd.int .i64) w A1 l1.length l1) (hc1 : l1.length ≤ c1) (hr3 : Kd.C k134 w A3 l3.length l3) (hc3 : l3.length ≤ c3)
    (hz0 : l0.length ≤ 5864062014805) (hz1 : ∀ f ∈ l0, f.length ≤ 4398046511104) (hz2 : l1.length < 17592186044416) (hz3 : l3.length ≤ 5864062014805)
    (hq0 : Kd.C (Kd.slice 128 k128) w Z0 r0.length r0) (hd0 : r0.length ≤ d0) (hq1 : Kd.C (Kd.int .i64) w Z1 r1.length r1) (hd1 : r1.length ≤ d1) (hq3 : Kd.C k134 w Z3 r3.length r3) (hd3 : r3.length ≤ d3) :
    Calls Try.prog 13 #[.agg #[.slice A0 l0.length c0, .slice A1 l1.length c1, .int .i64 locks, .slice A3 l3.length c3], .agg #[.slice Z0 r0.length d0, .slice Z1 r1.length d1, .int .i64 rlk, .slice Z3 r3.length d3], .int .i64 fa, .int .i64 ata, .int .i64 wha, .int .i64 toa] w fun e w' => e = .returned (.bool true) ∧ Below w.heap.size w w' := by
  have RP : Aside0 (RD w A0 A1 A3 c0 c1 c3 l0 l1 l3) := ⟨⟨hr0, hc0, hr1, hc1, hr3, hc3⟩⟩
  have RQ : Aside0 (RD w Z0 Z1 Z3 d0 d1 d3 r0 r1 r3) := ⟨⟨hq0, hd0, hq1, hd1, hq3, hd3⟩⟩
  have SZ := Aside0.mk (And.intro hz0 (And.intro hz1 (And.intro hz2 hz3)))
  clear hr0 hr1 hr3 hc0 hc1 hc3 hz0 hz1 hz2 hz3 hq0 hd0 hq1 hd1 hq3 hd3
  have HB := Aside0.mk (cW_below w #[.slice A0 l0.length c0, .slice A1 l1.length c1, .int .i64 locks, .slice A3 l3.length c3] #[.slice Z0 r0.length d0, .slice Z1 r1.length d1, .int .i64 rlk, .slice Z3 r3.length d3])
  have BP := Aside0.mk (cW_p w #[.slice A0 l0.length c0, .slice A1 l1.length c1, .int .i64 locks, .slice A3 l3.length c3] #[.slice Z0 r0.length d0, .slice Z1 r1.length d1, .int .i64 rlk, .slice Z3 r3.length d3])
  have BC := Aside0.mk (cW_c w #[.slice A0 l0.length c0, .slice A1 l1.length c1, .int .i64 locks, .slice A3 l3.length c3] #[.slice Z0 r0.length d0, .slice Z1 r1.length d1, .int .i64 rlk, .slice Z3 r3.length d3])
  go_enter Try.func13, Try.ntmps13
  go_upto_region 1 with (fail)
  change Code.wp _ _ _ _ (cW w #[.slice A0 l0.length c0, .slice A1 l1.length c1, .int .i64 locks, .slice A3 l3.length c3] #[.slice Z0 r0.length d0, .slice Z1 r1.length d1, .int .i64 rlk, .slice Z3 r3.length d3])
  generalize cW w #[.slice A0 l0.length c0, .slice A1 l1.length c1, .int .i64 locks, .slice A3 l3.length c3] #[.slice Z0 r0.length d0, .slice Z1 r1.length d1, .int .i64 rlk, .slice Z3 r3.length d3] = w2 at HB BP BC ⊢
  go_upto_region 3 with (go_at_call 50; (with_reducible refine (awake_calls _).mono ?_); rintro e w3 ⟨rfl, hb⟩; have BP2 := Aside0.mk (blk_below BP.out hb); have BC2 := Aside0.mk (blk_below BC.out hb); have HB2 := Aside0.mk (below_then HB.out HB.out.size hb); clear BP BC HB hb; have BP := BP2; have BC := BC2; have HB := HB2; clear BP2 BC2 HB2)
  have p0 : w3.cell? ⟨w.heap.size + 1, 0, none⟩ = some (.slice Z0 r0.length d0) := (blk_cell BC.out 0).trans rfl
  have p1 : w3.cell? ⟨w.heap.size + 1, 1, none⟩ = some (.slice Z1 r1.length d1) := (blk_cell BC.out 1).trans rfl
  have p2 : w3.cell? ⟨w.heap.size + 1, 2, none⟩ = some (.int .i64 rlk) := (blk_cell BC.out 2).trans rfl
  have p3 : w3.cell? ⟨w.heap.size + 1, 3, none⟩ = some (.slice Z3 r3.length d3) := (blk_cell BC.out 3).trans rfl
  go_cut [13] (fun v13 wx => ∃ gq v0 v1 v3 L0 L1 lk L3, v13 = .pointer (some ⟨gq, 0, none⟩) ∧ Aside0 (QL w wx gq v0 v1 lk v3 L0 L1 L3) ∧ Aside0 (wx.heap[w.heap.size]? = some (.cells #[.slice A0 l0.length c0, .slice A1 l1.length c1, .int .i64 locks, .slice A3 l3.length c3] 112 (0, 0))) ∧ Aside0 (gq ≠ w.heap.size) ∧ Aside0 (Ok L0 L1 lk L3))
  case first =>
    go_wp2_with (first
      | (go_at_call 51; (with_reducible refine (some_calls Z0 Z1 Z3 d0 d1 d3 r0 r1 r3 rlk _ (RQ.out.below HB.out).a RQ.out.b (RQ.out.below HB.out).c RQ.out.d (RQ.out.below HB.out).e RQ.out.f).mono ?_); rintro e w4 ⟨v0, v1, v3, L0, L1, lk, L3, rfl, s0, s1, s3, hb, hok⟩; have S0 := Aside0.mk (Kd.S_lower s0 HB.out.size); have S1 := Aside0.mk (Kd.R_lower s1 HB.out.size); have S3 := Aside0.mk (Kd.R_lower s3 HB.out.size); have OK := Aside0.mk hok; have BP2 := Aside0.mk (blk_below BP.out hb); have HB2 := Aside0.mk (below_then HB.out HB.out.size hb); clear BP BC HB hb s0 s1 s3 hok p0 p1 p2 p3; have BP := BP2; have HB := HB2; clear BP2 HB2; obtain ⟨B0, e0, rfl⟩ := Kd.S_slice S0.out; obtain ⟨B1, e1, rfl⟩ := Kd.R_slice S1.out; obtain ⟨B3, e3, rfl⟩ := Kd.R_slice S3.out)
      | ((with_reducible refine gate_dst (N := 13) rfl ?_); refine box_event ?hg (N := 13) ?hd (cs := #[.slice none 0 0, .slice none 0 0, .int .i64 0, .slice none 0 0]) (t := 112) ?hr ?_; (case hd => rfl); (case hg => rfl); (case hr => first | (go_simp; done) | (go_simp; rfl)); intro gq hg w5 hbox hb; have BQ := Aside0.mk hbox; have GQ : Aside0 (w.heap.size ≤ gq ∧ gq ≠ w.heap.size) := ⟨by have h1 := blk_lt BP.out; have h2 := HB.out.size; omega⟩; clear hg hbox; have T0 := Aside0.mk (Kd.S_below S0.out hb); have T1 := Aside0.mk (Kd.R_below S1.out hb); have T3 := Aside0.mk (Kd.R_below S3.out hb); have BP2 := Aside0.mk (blk_below BP.out hb); have HB2 := Aside0.mk (below_then HB.out HB.out.size hb); clear BP HB hb S0 S1 S3; have BP := BP2; have HB := HB2; clear BP2 HB2; have o0 : w5.cell? ⟨gq, 0, none⟩ = some (.slice none 0 0) := (blk_cell BQ.out 0).trans rfl; have f0 := blk_frozen BQ.out 0; have o1 : w5.cell? ⟨gq, 1, none⟩ = some (.slice none 0 0) := (blk_cell BQ.out 1).trans rfl; have f1 := blk_frozen BQ.out 1; have o2 : w5.cell? ⟨gq, 2, none⟩ = some (.int .i64 0) := (blk_cell BQ.out 2).trans rfl; have f2 := blk_frozen BQ.out 2; have o3 : w5.cell? ⟨gq, 3, none⟩ = some (.slice none 0 0) := (blk_cell BQ.out 3).trans rfl; have f3 := blk_frozen BQ.out 3))
    go_meet
    exact ⟨gq, _, _, _, L0, L1, lk, L3, rfl, ⟨QL.mk4 T0.out T1.out T3.out HB.out GQ.out.1 BQ.out⟩, ⟨far4 BP.out GQ.out.2.symm _ _ _ _⟩, ⟨GQ.out.2⟩, OK⟩
  case rest =>
    obtain ⟨gq, v0, v1, v3, L0, L1, lk, L3, rfl, HQ, BP2, GC, OK⟩ := hcut
    clear BP BC HB p0 p1 p2 p3
    have BP := BP2
    clear BP2
    obtain ⟨a, b, e, -, h52, hok0⟩ := both L0 L1 lk L3 (by have := OK.out.h0; omega) (fun f hf => by
        obtain ⟨n, hn, rfl⟩ := List.getElem_of_mem hf
        have := (OK.out.rows n hn).2
        have e : rd_L5 L0 (n : Nat) = L0[n] := by show L0.getD (n : Int).toNat [] = _; rw [List.getD_eq_getElem?_getD, Int.toNat_natCast, List.getElem?_eq_getElem hn]; rfl
        rw [e] at this
        omega) (by have := OK.out.h1; omega) (by have := OK.out.h3; omega)
    obtain ⟨rfl, rfl, rfl⟩ := hok0 OK.out
    have H52 := Aside0.mk h52
    clear h52 hok0
    obtain ⟨B0, e0, B1, e1, B3, e3, rfl, rfl, rfl, _⟩ := HQ.out.reads
    have x0 : wc.cell? ⟨gq, 0, none⟩ = some (.slice B0 L0.length e0) := (blk_cell HQ.out.BQ 0).trans rfl
    have x1 : wc.cell? ⟨gq, 1, none⟩ = some (.slice B1 L1.length e1) := (blk_cell HQ.out.BQ 1).trans rfl
    have x2 : wc.cell? ⟨gq, 2, none⟩ = some (.int .i64 lk) := (blk_cell HQ.out.BQ 2).trans rfl
    have x3 : wc.cell? ⟨gq, 3, none⟩ = some (.slice B3 L3.length e3) := (blk_cell HQ.out.BQ 3).trans rfl
    go_upto_region 5 with (first
      | (go_at_call 52; (obtain ⟨m0, n0, m1, n1, m3, n3⟩ := HQ.out.rd); (with_reducible refine (H52.out _ _ _ _ _ _ _ m0 n0 m1 n1 m3 n3).mono ?_); clear m0 n0 m1 n1 m3 n3; rintro x wB ⟨u0, u1, u3, rfl, hb, h53⟩; have R53 := Aside0.mk (h53 _ rfl); clear h53; have HQ2 := Aside0.mk (HQ.out.below hb); have BP2 := Aside0.mk (blk_below BP.out hb); clear HQ BP hb x0 x1 x2 x3; have HQ := HQ2; have BP := BP2; clear HQ2 BP2)
      | (go_at_call 53; (with_reducible refine R53.out.mono ?_); rintro x wC ⟨rfl, hb⟩; clear R53; have HQ2 := Aside0.mk (HQ.out.below hb); have BP2 := Aside0.mk (blk_below BP.out hb); clear HQ BP hb; have HQ := HQ2; have BP := BP2; clear HQ2 BP2)
      | ((with_reducible refine gate_dst (N := 14) rfl ?_); refine box_event ?hg (N := 14) ?hd (cs := #[.int .i64 0, .int .i64 0, .int .i64 0]) (t := 116) ?hr ?_; (case hd => rfl); (case hg => rfl); (case hr => first | (go_simp; done) | (go_simp; rfl)); intro gf hg wD hbox hb; have BF := Aside0.mk hbox; have GF : Aside0 (w.heap.size ≤ gf ∧ gq ≠ gf ∧ w.heap.size ≠ gf) := ⟨by have h1 := blk_lt HQ.out.BQ; have h2 := HQ.out.HB.size; have h3 := blk_lt BP.out; omega⟩; have HQ2 := Aside0.mk (HQ.out.below hb); have BP2 := Aside0.mk (blk_below BP.out hb); clear hg hbox HQ BP hb; have HQ := HQ2; have BP := BP2; clear HQ2 BP2; have o0 : wD.cell? ⟨gf, 0, none⟩ = some (.int .i64 0) := (blk_cell BF.out 0).trans rfl; have f0 := blk_frozen BF.out 0; have o1 : wD.cell? ⟨gf, 1, none⟩ = some (.int .i64 0) := (blk_cell BF.out 1).trans rfl; have f1 := blk_frozen BF.out 1; have o2 : wD.cell? ⟨gf, 2, none⟩ = some (.int .i64 0) := (blk_cell BF.out 2).trans rfl; have f2 := blk_frozen BF.out 2))
    have BF2 := Aside0.mk (three_set BF.out (.int .i64 0) (.int .i64 0) (.int .i64 0))
    have HQ2 := Aside0.mk (((HQ.out.box BF.out GF.out.2.1 GF.out.1 (by decide) (by decide) (by decide) 0 (.int .i64 0)).box (blk_set BF.out 0 (.int .i64 0)) GF.out.2.1 GF.out.1 (by decide) (by decide) (by decide) 1 (.int .i64 0)).box (blk_set (blk_set BF.out 0 (.int .i64 0)) 1 (.int .i64 0)) GF.out.2.1 GF.out.1 (by decide) (by decide) (by decide) 2 (.int .i64 0))
    have BP2 := Aside0.mk (far3 BP.out GF.out.2.2 (.int .i64 0) (.int .i64 0) (.int .i64 0))
    clear HQ BP BF o0 o1 o2 f0 f1 f2
    have HQ := HQ2
    have BP := BP2
    have BF := BF2
    clear HQ2 BP2 BF2
    change Code.wp _ _ _ _ (((wD.setCell ⟨gf, 0, none⟩ (.int .i64 0)).setCell ⟨gf, 1, none⟩ (.int .i64 0)).setCell ⟨gf, 2, none⟩ (.int .i64 0))
    generalize (((wD.setCell ⟨gf, 0, none⟩ (.int .i64 0)).setCell ⟨gf, 1, none⟩ (.int .i64 0)).setCell ⟨gf, 2, none⟩ (.int .i64 0)) = wE at HQ BP BF ⊢
    have o0 : wE.cell? ⟨gf, 0, none⟩ = some (.int .i64 0) := (blk_cell BF.out 0).trans rfl
    have o1 : wE.cell? ⟨gf, 1, none⟩ = some (.int .i64 0) := (blk_cell BF.out 1).trans rfl
    have o2 : wE.cell? ⟨gf, 2, none⟩ = some (.int .i64 0) := (blk_cell BF.out 2).trans rfl
    go_upto_region 7 with (fail)
    clear o0 o1 o2
    obtain ⟨g0, cap0, hv, hx1, hx2, hx3⟩ := Kd.S_form HQ.out.H0 (by have := OK.out.h0; omega)
    injection hv with hv1 hv2 hv3
    subst hv1 hv3
    clear hv2 hx1 hx2 hx3
    obtain ⟨i, hi, him⟩ : ∃ i : Nat, i < L0.length ∧ modF fa L0.length = (i : Int) := by
      have h0 := OK.out.h0
      have h := modF_in (n := fa) (m := L0.length) (by omega) (by omega)
      exact ⟨(modF fa L0.length).toNat, by omega, by omega⟩
    have HI := Aside0.mk hi
    have HIM := Aside0.mk him
    clear hi him
    have hil : (i : Int) < L0.length := by have := HI.out; omega
    refine wp_region_noPanic ?_
    refine start_ (n := 9) (S := (fun w' => w'.cell? ⟨gq, 0, none⟩ = some (.slice (some ⟨g0, 0, none⟩) L0.length e0) ∧ True)) (ds := []) #[false, false, false, false, false, false, false, false, false] (by kernel_rfl) rfl rfl (by (try dsimp only); first | exact ⟨(blk_cell HQ.out.BQ 0).trans rfl, trivial⟩ | exact ⟨(blk_cell (blk_drew HQ.out.BQ) 0).trans rfl, trivial⟩) (fun hHeld => ?_)
    refine with_tab chk7_tab (fun HT_ => ?_)
    have HQ2 := Aside0.mk HQ.out.drew
    have BP2 := Aside0.mk (blk_drew BP.out)
    clear HQ BP BF
    have HQ := HQ2
    have BP := BP2
    clear HQ2 BP2
    generalize wE.drew = w0d at HQ BP hHeld ⊢
    refine take_ (i := 0) (N := some 42) (v := ?_) (a' := ?_) #[true, false, false, false, false, false, false, false, false] rfl rfl (take_of HT_.out (by kernel_rfl)) (fun _ _ _ h => h) (Or.inl ⟨by first | rfl | (go_simp; done), ?_⟩) hHeld ?_ ?_
    rotate_left
    · rintro w' ⟨s0, s1⟩
      go_simp
      try (with_reducible rfl)
    rotate_left
    · simp only [Act.put, List.setIfInBounds_toArray, List.set_cons_zero, List.set_cons_succ]
      rfl
    refine take_ (i := 1) (N := some 43) (v := ?_) (a' := ?_) #[true, true, false, false, false, false, false, false, false] rfl rfl (take_of HT_.out (by kernel_rfl)) (fun _ _ _ h => h) (Or.inl ⟨by first | rfl | (go_simp; done), ?_⟩) hHeld ?_ ?_
    rotate_left
    · rintro w' ⟨s0, s1⟩
      go_simp
      try (with_reducible rfl)
    rotate_left
    · simp only [Act.put, List.setIfInBounds_toArray, List.set_cons_zero, List.set_cons_succ]
      rfl
    refine take_ (i := 2) (N := some 44) (v := ?_) (a' := ?_) #[true, true, true, false, false, false, false, false, false] rfl rfl (take_of HT_.out (by kernel_rfl)) (fun _ _ _ h => h) (Or.inl ⟨by first | rfl | (go_simp; done), ?_⟩) hHeld ?_ ?_
    rotate_left
    · rintro w' ⟨s0, s1⟩
      go_simp
      try (with_reducible rfl)
    rotate_left
    · simp only [Act.put, List.setIfInBounds_toArray, List.set_cons_zero, List.set_cons_succ]
      rfl
    refine take_ (i := 3) (N := some 45) (v := ?_) (a' := ?_) #[true, true, true, true, false, false, false, false, false] rfl rfl (take_of HT_.out (by kernel_rfl)) (fun _ _ _ h => h) (Or.inl ⟨by first | rfl | (go_simp; done), ?_⟩) hHeld ?_ ?_
    rotate_left
    · rintro w' ⟨s0, s1⟩
      go_simp
      try (with_reducible rfl)
    rotate_left
    · simp only [Act.put, List.setIfInBounds_toArray, List.set_cons_zero, List.set_cons_succ]
      rfl
    refine take_ (i := 4) (N := some 46) (v := ?_) (a' := ?_) #[true, true, true, true, true, false, false, false, false] rfl rfl (take_of HT_.out (by kernel_rfl)) (fun _ _ _ h => h) (Or.inl ⟨by first | rfl | (go_simp; done), ?_⟩) hHeld ?_ ?_
    rotate_left
    · rintro w' ⟨s0, s1⟩
      go_simp
      try (with_reducible rfl)
    rotate_left
    · simp only [Act.put, List.setIfInBounds_toArray, List.set_cons_zero, List.set_cons_succ]
      rfl
    refine take_ (i := 5) (N := some 47) (v := ?_) (a' := ?_) #[true, true, true, true, true, true, false, false, false] rfl rfl (take_of HT_.out (by kernel_rfl)) (fun _ _ _ h => h) (Or.inl ⟨by first | rfl | (go_simp; done), ?_⟩) hHeld ?_ ?_
    rotate_left
    · rintro w' ⟨s0, s1⟩
      go_simp
      try (with_reducible rfl)
    rotate_left
    · simp only [Act.put, List.setIfInBounds_toArray, List.set_cons_zero, List.set_cons_succ]
      rfl
    refine one_ (i := 6) (N := some 48) #[true, true, true, true, true, true, true, false, false] rfl rfl (one_of HT_.out (by kernel_rfl)) (by decide) (fun K hK => ?_)
    go_simp
    (with_reducible refine (mod_calls fa L0.length _ HIM.out _).mono ?_)
    rintro e wb ⟨rfl, hb⟩
    have HQ2 := Aside0.mk (HQ.out.below hb)
    have BP2 := Aside0.mk (blk_below BP.out hb)
    clear HQ BP hb
    have HQ := HQ2
    have BP := BP2
    clear HQ2 BP2
    refine hK.out _ _ (by (try dsimp only); first | exact ⟨(blk_cell HQ.out.BQ 0).trans rfl, trivial⟩ | exact ⟨(blk_cell (blk_drew HQ.out.BQ) 0).trans rfl, trivial⟩) (fun hHeld2 => ?_)
    clear hK K hHeld
    have hHeld := hHeld2
    clear hHeld2
    try simp only [Act.put, List.setIfInBounds_toArray, List.set_cons_zero, List.set_cons_succ]
    refine take_ (i := 7) (N := some 49) (v := ?_) (a' := ?_) #[true, true, true, true, true, true, true, true, false] rfl rfl (take_of HT_.out (by kernel_rfl)) (fun _ _ _ h => h) (Or.inl ⟨by first | rfl | (go_simp; done), ?_⟩) hHeld ?_ ?_
    rotate_left
    · rintro w' ⟨s0, s1⟩
      go_simp
      try (with_reducible rfl)
    rotate_left
    · simp only [Act.put, List.setIfInBounds_toArray, List.set_cons_zero, List.set_cons_succ]
      rfl
    refine take_ (i := 8) (N := some 16) (v := ?_) (a' := ?_) #[true, true, true, true, true, true, true, true, true] rfl rfl (take_of HT_.out (by kernel_rfl)) (fun _ _ _ h => h) (Or.inl ⟨by first | rfl | (go_simp; done), ?_⟩) hHeld ?_ ?_
    rotate_left
    · rintro w' ⟨s0, s1⟩
      go_simp
      try (with_reducible rfl)
    rotate_left
    · simp only [Act.put, List.setIfInBounds_toArray, List.set_cons_zero, List.set_cons_succ]
      rfl
    refine done_ (done_of HT_.out (by kernel_rfl)) ?_
    refine NoPanic.normal ?_
    have hrow := OK.out.rows i HI.out
    obtain ⟨gi, ci, y0, -, -, -, -⟩ := HQ.out.field i 0 HI.out (by omega)
    obtain ⟨k, hk, hkm⟩ : ∃ k : Nat, k < (rd_L5 L0 (i : Nat)).length ∧ modF ata (rd_L5 L0 (i : Nat)).length = (k : Int) := by
      have h := modF_in (n := ata) (m := (rd_L5 L0 (i : Nat)).length) (by omega) (by omega)
      exact ⟨(modF ata (rd_L5 L0 (i : Nat)).length).toNat, by omega, by omega⟩
    have HK := Aside0.mk hk
    have HKM := Aside0.mk hkm
    clear hk hkm hrow
    obtain ⟨jw, hj, hjm⟩ : ∃ j : Nat, j < 4 ∧ modF wha 4 = (j : Int) := by
      have h := modF_in (n := wha) (m := 4) (by omega) (by omega)
      exact ⟨(modF wha 4).toNat, by omega, by omega⟩
    have HJM := Aside0.mk hjm
    clear hjm
    go_upto_block 0 with (first
      | (go_at_call 54; (with_reducible refine (mod_calls ata (rd_L5 L0 (i : Nat)).length _ HKM.out _).mono ?_); rintro e wF ⟨rfl, hb⟩; have HQ2 := Aside0.mk (HQ.out.below hb); have BP2 := Aside0.mk (blk_below BP.out hb); clear HQ BP hb y0; have HQ := HQ2; have BP := BP2; clear HQ2 BP2)
      | (go_at_call 54; (with_reducible refine (mod_calls wha 4 _ HJM.out _).mono ?_); rintro e wG ⟨rfl, hb⟩; have HQ2 := Aside0.mk (HQ.out.below hb); have BP2 := Aside0.mk (blk_below BP.out hb); clear HQ BP hb; have HQ := HQ2; have BP := BP2; clear HQ2 BP2))
    go_cut [] (fun wx => ∃ L0' : List (List S128), Aside0 (QL w wx gq (.slice (some ⟨g0, 0, none⟩) L0'.length e0) (.slice B1 L1.length e1) lk (.slice B3 L3.length e3) L0' L1 L3) ∧ Aside0 (wx.heap[w.heap.size]? = some (.cells #[.slice A0 l0.length c0, .slice A1 l1.length c1, .int .i64 locks, .slice A3 l3.length c3] 112 (0, 0))) ∧ Aside0 (L0'.length ≤ 16 ∧ ∀ f ∈ L0', f.length ≤ 64))
    case first =>
      obtain ⟨gi, ci, y0, ⟨cells, hcells⟩, ys, yf, hput⟩ := HQ.out.field i k HI.out HK.out
      have hkl : (k : Int) < (rd_L5 L0 (i : Nat)).length := by have := HK.out; omega
      have HPUT := Aside0.mk hput
      have OKL : Aside0 (∀ r : List S128, r.length ≤ 64 → (L0.set i r).length ≤ 16 ∧ ∀ f ∈ L0.set i r, f.length ≤ 64) := ⟨fun r hr => ⟨by rw [List.length_set]; have := OK.out.h0; omega, fun f hf => by
        rcases List.mem_or_eq_of_mem_set hf with h | h
        · exact (by
          obtain ⟨n, hn, rfl⟩ := List.getElem_of_mem h
          have := (OK.out.rows n hn).2
          have e : rd_L5 L0 (n : Nat) = L0[n] := by show L0.getD (n : Int).toNat [] = _; rw [List.getD_eq_getElem?_getD, Int.toNat_natCast, List.getElem?_eq_getElem hn]; rfl
          rw [e] at this
          omega)
        · rw [h]; exact hr⟩⟩
      have hrl : (rd_L5 L0 (i : Nat)).length ≤ 64 := (OK.out.rows i HI.out).2
      have HRL := Aside0.mk hrl
      have HCELLS := Aside0.mk hcells
      clear hput hrl hcells
      match jw, hj with
      | 0, _ =>
        obtain ⟨u, yc⟩ := ys 0 (by decide)
        have yz := yf 0
        clear ys yf
        try simp only [Nat.add_zero] at yc yz
        go_wp2
        go_meet
        exact ⟨_, ⟨HPUT.out 0 toa (by decide)⟩, ⟨blk_far (p := ⟨gi, k * 4 + 0, none⟩) BP.out (blk_ne BP.out HCELLS.out (by decide)) _⟩, ⟨OKL.out _ (by rw [List.length_set]; exact HRL.out)⟩⟩
      | 1, _ =>
        obtain ⟨u, yc⟩ := ys 1 (by decide)
        have yz := yf 1
        clear ys yf
        try simp only [Nat.add_zero] at yc yz
        go_wp2
        go_meet
        exact ⟨_, ⟨HPUT.out 1 toa (by decide)⟩, ⟨blk_far (p := ⟨gi, k * 4 + 1, none⟩) BP.out (blk_ne BP.out HCELLS.out (by decide)) _⟩, ⟨OKL.out _ (by rw [List.length_set]; exact HRL.out)⟩⟩
      | 2, _ =>
        obtain ⟨u, yc⟩ := ys 2 (by decide)
        have yz := yf 2
        clear ys yf
        try simp only [Nat.add_zero] at yc yz
        go_wp2
        go_meet
        exact ⟨_, ⟨HPUT.out 2 toa (by decide)⟩, ⟨blk_far (p := ⟨gi, k * 4 + 2, none⟩) BP.out (blk_ne BP.out HCELLS.out (by decide)) _⟩, ⟨OKL.out _ (by rw [List.length_set]; exact HRL.out)⟩⟩
      | 3, _ =>
        obtain ⟨u, yc⟩ := ys 3 (by decide)
        have yz := yf 3
        clear ys yf
        try simp only [Nat.add_zero] at yc yz
        go_wp2
        go_meet
        exact ⟨_, ⟨HPUT.out 3 toa (by decide)⟩, ⟨blk_far (p := ⟨gi, k * 4 + 3, none⟩) BP.out (blk_ne BP.out HCELLS.out (by decide)) _⟩, ⟨OKL.out _ (by rw [List.length_set]; exact HRL.out)⟩⟩
    case rest =>
      obtain ⟨L0', HQ2, BP2, SL0⟩ := hcut
      clear HQ BP
      have HQ := HQ2
      have BP := BP2
      clear HQ2 BP2
      have p0 : wc.cell? ⟨w.heap.size, 0, none⟩ = some (.slice A0 l0.length c0) := (blk_cell BP.out 0).trans rfl
      have p1 : wc.cell? ⟨w.heap.size, 1, none⟩ = some (.slice A1 l1.length c1) := (blk_cell BP.out 1).trans rfl
      have p2 : wc.cell? ⟨w.heap.size, 2, none⟩ = some (.int .i64 locks) := (blk_cell BP.out 2).trans rfl
      have p3 : wc.cell? ⟨w.heap.size, 3, none⟩ = some (.slice A3 l3.length c3) := (blk_cell BP.out 3).trans rfl
      have q0 : wc.cell? ⟨gq, 0, none⟩ = some (.slice (some ⟨g0, 0, none⟩) L0'.length e0) := (blk_cell HQ.out.BQ 0).trans rfl
      have q1 : wc.cell? ⟨gq, 1, none⟩ = some (.slice B1 L1.length e1) := (blk_cell HQ.out.BQ 1).trans rfl
      have q2 : wc.cell? ⟨gq, 2, none⟩ = some (.int .i64 lk) := (blk_cell HQ.out.BQ 2).trans rfl
      have q3 : wc.cell? ⟨gq, 3, none⟩ = some (.slice B3 L3.length e3) := (blk_cell HQ.out.BQ 3).trans rfl
      go_upto_block 1 with (fail)
      clear p0 p1 p2 p3 q0 q1 q2 q3
      have BY := Aside0.mk (blk_new wc (.cells #[.slice A0 l0.length c0, .slice A1 l1.length c1, .int .i64 locks, .slice A3 l3.length c3, .slice (some ⟨g0, 0, none⟩) L0'.length e0, .slice B1 L1.length e1, .int .i64 lk, .slice B3 L3.length e3] 112))
      have HQ2 := Aside0.mk (HQ.out.below (below_alloc (Below.refl _ _) (.cells #[.slice A0 l0.length c0, .slice A1 l1.length c1, .int .i64 locks, .slice A3 l3.length c3, .slice (some ⟨g0, 0, none⟩) L0'.length e0, .slice B1 L1.length e1, .int .i64 lk, .slice B3 L3.length e3] 112)))
      have GY : Aside0 (w.heap.size ≤ wc.heap.size) := ⟨HQ.out.HB.size⟩
      clear HQ BP
      have HQ := HQ2
      clear HQ2
      change Code.wp _ _ _ _ (wc.alloc (.cells #[.slice A0 l0.length c0, .slice A1 l1.length c1, .int .i64 locks, .slice A3 l3.length c3, .slice (some ⟨g0, 0, none⟩) L0'.length e0, .slice B1 L1.length e1, .int .i64 lk, .slice B3 L3.length e3] 112))
      generalize wc.alloc (.cells #[.slice A0 l0.length c0, .slice A1 l1.length c1, .int .i64 locks, .slice A3 l3.length c3, .slice (some ⟨g0, 0, none⟩) L0'.length e0, .slice B1 L1.length e1, .int .i64 lk, .slice B3 L3.length e3] 112) = wy at HQ BY ⊢
      generalize wc.heap.size = gy at BY GY ⊢
      go_cut [] (fun wx => Aside0 (Below w.heap.size w wx))
      case first =>
        go_wp2
        go_loopw [98] (fun v98 wr => ∃ i : Nat, v98 = .int .i64 i ∧ i ≤ 2 ∧ Aside0 (QL w wr gq (.slice (some ⟨g0, 0, none⟩) L0'.length e0) (.slice B1 L1.length e1) lk (.slice B3 L3.length e3) L0' L1 L3) ∧ Aside0 (wr.heap[gy]? = some (.cells #[.slice A0 l0.length c0, .slice A1 l1.length c1, .int .i64 locks, .slice A3 l3.length c3, .slice (some ⟨g0, 0, none⟩) L0'.length e0, .slice B1 L1.length e1, .int .i64 lk, .slice B3 L3.length e3] 112 (0, 0)))) (fun v _ => 2 - (intOf v).toNat)
        case atStart => exact ⟨0, rfl, by omega, HQ, BY⟩
        case round =>
          clear HQ BY
          obtain ⟨n, rfl, hn, HQ, BY⟩ := hrel
          by_cases h1 : 2 ≤ n
          · have h2 : ¬ (n : Int) < 2 := by omega
            go_wp2
            go_meet
            exact ⟨HQ.out.HB⟩
          have h2 : (n : Int) < 2 := by omega
          obtain ⟨Y0, Y1, Y3, y0, y1, y3, m0, m1, m3, ylk, hc0, hc1, hc2, hc3, hrd, hs0, hs1, hs2, hs3⟩ : ∃ (Y0 Y1 Y3 : Option Addr) (y0 y1 y3 : Nat) (m0 : List (List S128)) (m1 : List Int) (m3 : List S134) (ylk : Int), wr.cell? ⟨gy, n * 4, none⟩ = some (.slice Y0 m0.length y0) ∧ wr.cell? ⟨gy, n * 4 + 1, none⟩ = some (.slice Y1 m1.length y1) ∧ wr.cell? ⟨gy, n * 4 + 2, none⟩ = some (.int .i64 ylk) ∧ wr.cell? ⟨gy, n * 4 + 3, none⟩ = some (.slice Y3 m3.length y3) ∧
              RD wr Y0 Y1 Y3 y0 y1 y3 m0 m1 m3 ∧ m0.length ≤ 5864062014805 ∧ (∀ f ∈ m0, f.length ≤ 4398046511104) ∧ m1.length < 17592186044416 ∧ m3.length ≤ 5864062014805 := by
            match n, h1 with
            | 0, _ => exact ⟨A0, A1, A3, c0, c1, c3, l0, l1, l3, locks, (blk_cell BY.out 0).trans rfl, (blk_cell BY.out 1).trans rfl, (blk_cell BY.out 2).trans rfl, (blk_cell BY.out 3).trans rfl, RP.out.below HQ.out.HB, SZ.out⟩
            | 1, _ =>
              obtain ⟨u0, u1, u2, u3, u4, u5⟩ := HQ.out.rd
              exact ⟨some ⟨g0, 0, none⟩, B1, B3, e0, e1, e3, L0', L1, L3, lk, (blk_cell BY.out 4).trans rfl, (blk_cell BY.out 5).trans rfl, (blk_cell BY.out 6).trans rfl, (blk_cell BY.out 7).trans rfl, ⟨u0, u1, u2, u3, u4, u5⟩, by have := SL0.out.1; omega, fun f hf => Nat.le_trans (SL0.out.2 f hf) (by decide), by have := OK.out.h1; omega, by have := OK.out.h3; omega⟩
          obtain ⟨a, b, e, h55, h52, -⟩ := both m0 m1 ylk m3 hs0 hs1 hs2 hs3
          have H55 := Aside0.mk h55
          have H52' := Aside0.mk h52
          have HRD := Aside0.mk hrd
          clear h55 h52 hs0 hs1 hs2 hs3 hrd
          have HW := Aside0.mk (Below.refl wr.heap.size wr)
          go_upto_region 21 with ((with_reducible refine gate_dst (N := 19) rfl ?_); refine box_event ?hg (N := 19) ?hd (cs := #[.slice none 0 0, .slice none 0 0, .int .i64 0, .slice none 0 0]) (t := 112) ?hr ?_; (case hd => rfl); (case hg => rfl); (case hr => first | (go_simp; done) | (go_simp; rfl)); intro gx hg wX hbox hb; have BX := Aside0.mk hbox; have GX : Aside0 (wr.heap.size ≤ gx) := ⟨by omega⟩; have HW2 := Aside0.mk (below_then HW.out HW.out.size hb); clear hg hbox HW hb hc0 hc1 hc2 hc3; have HW := HW2; clear HW2; have o0 : wX.cell? ⟨gx, 0, none⟩ = some (.slice none 0 0) := (blk_cell BX.out 0).trans rfl; have f0 := blk_frozen BX.out 0; have o1 : wX.cell? ⟨gx, 1, none⟩ = some (.slice none 0 0) := (blk_cell BX.out 1).trans rfl; have f1 := blk_frozen BX.out 1; have o2 : wX.cell? ⟨gx, 2, none⟩ = some (.int .i64 0) := (blk_cell BX.out 2).trans rfl; have f2 := blk_frozen BX.out 2; have o3 : wX.cell? ⟨gx, 3, none⟩ = some (.slice none 0 0) := (blk_cell BX.out 3).trans rfl; have f3 := blk_frozen BX.out 3)
          have BX2 := Aside0.mk (four_set BX.out (.slice Y0 m0.length y0) (.slice Y1 m1.length y1) (.int .i64 ylk) (.slice Y3 m3.length y3))
          have HW2 := Aside0.mk (four_below HW.out GX.out (.slice Y0 m0.length y0) (.slice Y1 m1.length y1) (.int .i64 ylk) (.slice Y3 m3.length y3))
          clear HW BX o0 o1 o2 o3 f0 f1 f2 f3
          have HW := HW2
          have BX := BX2
          clear HW2 BX2
          change Code.wp _ _ _ _ ((((wX.setCell ⟨gx, 0, none⟩ (.slice Y0 m0.length y0)).setCell ⟨gx, 1, none⟩ (.slice Y1 m1.length y1)).setCell ⟨gx, 2, none⟩ (.int .i64 ylk)).setCell ⟨gx, 3, none⟩ (.slice Y3 m3.length y3))
          generalize ((((wX.setCell ⟨gx, 0, none⟩ (.slice Y0 m0.length y0)).setCell ⟨gx, 1, none⟩ (.slice Y1 m1.length y1)).setCell ⟨gx, 2, none⟩ (.int .i64 ylk)).setCell ⟨gx, 3, none⟩ (.slice Y3 m3.length y3)) = wY at HW BX ⊢
          have o0 : wY.cell? ⟨gx, 0, none⟩ = some (.slice Y0 m0.length y0) := (blk_cell BX.out 0).trans rfl
          have o1 : wY.cell? ⟨gx, 1, none⟩ = some (.slice Y1 m1.length y1) := (blk_cell BX.out 1).trans rfl
          have o2 : wY.cell? ⟨gx, 2, none⟩ = some (.int .i64 ylk) := (blk_cell BX.out 2).trans rfl
          have o3 : wY.cell? ⟨gx, 3, none⟩ = some (.slice Y3 m3.length y3) := (blk_cell BX.out 3).trans rfl
          go_upto_region 23 with (first
            | (go_at_call 55; (obtain ⟨u0, u1, u2, u3, u4, u5⟩ := HRD.out.below HW.out); (with_reducible refine (H55.out _ _ _ _ _ _ _ u0 u1 u2 u3 u4 u5).mono ?_); clear u0 u1 u2 u3 u4 u5; rintro x wA ⟨rfl, hb⟩; have HW2 := Aside0.mk (below_then HW.out HW.out.size hb); have BX2 := Aside0.mk (blk_below BX.out hb); clear HW BX hb o0 o1 o2 o3; have HW := HW2; have BX := BX2; clear HW2 BX2; have o0 : wA.cell? ⟨gx, 0, none⟩ = some (.slice Y0 m0.length y0) := (blk_cell BX.out 0).trans rfl; have o1 : wA.cell? ⟨gx, 1, none⟩ = some (.slice Y1 m1.length y1) := (blk_cell BX.out 1).trans rfl; have o2 : wA.cell? ⟨gx, 2, none⟩ = some (.int .i64 ylk) := (blk_cell BX.out 2).trans rfl; have o3 : wA.cell? ⟨gx, 3, none⟩ = some (.slice Y3 m3.length y3) := (blk_cell BX.out 3).trans rfl)
            | (go_at_call 52; (obtain ⟨u0, u1, u2, u3, u4, u5⟩ := HRD.out.below HW.out); (with_reducible refine (H52'.out _ _ _ _ _ _ _ u0 u1 u2 u3 u4 u5).mono ?_); clear u0 u1 u2 u3 u4 u5; rintro x wB ⟨u0, u1, u3, rfl, hb, h53⟩; have R53 := Aside0.mk (h53 _ rfl); clear h53; have HW2 := Aside0.mk (below_then HW.out HW.out.size hb); clear HW BX hb o0 o1 o2 o3; have HW := HW2; clear HW2)
            | (go_at_call 53; (with_reducible refine R53.out.mono ?_); rintro x wC ⟨rfl, hb⟩; clear R53; have HW2 := Aside0.mk (below_then HW.out HW.out.size hb); clear HW hb; have HW := HW2; clear HW2)
            | ((with_reducible refine gate_dst (N := 23) rfl ?_); refine box_event ?hg (N := 23) ?hd (cs := #[.int .i64 0, .int .i64 0, .int .i64 0]) (t := 116) ?hr ?_; (case hd => rfl); (case hg => rfl); (case hr => first | (go_simp; done) | (go_simp; rfl)); intro gt hg wD hbox hb; have BT := Aside0.mk hbox; have GT : Aside0 (wr.heap.size ≤ gt) := ⟨by have h2 := HW.out.size; omega⟩; have HW2 := Aside0.mk (below_then HW.out HW.out.size hb); clear hg hbox HW hb; have HW := HW2; clear HW2; have o0 : wD.cell? ⟨gt, 0, none⟩ = some (.int .i64 0) := (blk_cell BT.out 0).trans rfl; have f0 := blk_frozen BT.out 0; have o1 : wD.cell? ⟨gt, 1, none⟩ = some (.int .i64 0) := (blk_cell BT.out 1).trans rfl; have f1 := blk_frozen BT.out 1; have o2 : wD.cell? ⟨gt, 2, none⟩ = some (.int .i64 0) := (blk_cell BT.out 2).trans rfl; have f2 := blk_frozen BT.out 2))
          have BT2 := Aside0.mk (three_set BT.out (.int .i64 a) (.int .i64 b) (.int .i64 e))
          have HW2 := Aside0.mk (((HW.out.setCell (p := ⟨gt, 0, none⟩) GT.out (.int .i64 a)).setCell (p := ⟨gt, 1, none⟩) GT.out (.int .i64 b)).setCell (p := ⟨gt, 2, none⟩) GT.out (.int .i64 e))
          clear HW BT o0 o1 o2 f0 f1 f2
          have HW := HW2
          have BT := BT2
          clear HW2 BT2
          change Code.wp _ _ _ _ (((wD.setCell ⟨gt, 0, none⟩ (.int .i64 a)).setCell ⟨gt, 1, none⟩ (.int .i64 b)).setCell ⟨gt, 2, none⟩ (.int .i64 e))
          generalize (((wD.setCell ⟨gt, 0, none⟩ (.int .i64 a)).setCell ⟨gt, 1, none⟩ (.int .i64 b)).setCell ⟨gt, 2, none⟩ (.int .i64 e)) = wE at HW BT ⊢
          have o0 : wE.cell? ⟨gt, 0, none⟩ = some (.int .i64 a) := (blk_cell BT.out 0).trans rfl
          have o1 : wE.cell? ⟨gt, 1, none⟩ = some (.int .i64 b) := (blk_cell BT.out 1).trans rfl
          have o2 : wE.cell? ⟨gt, 2, none⟩ = some (.int .i64 e) := (blk_cell BT.out 2).trans rfl
          by_cases he : e = 0
          · subst he
            go_wp2
            exact ⟨⟨n + 1, by simp, by omega, ⟨HQ.out.below HW.out⟩, ⟨blk_below BY.out HW.out⟩⟩, by simp [intOf]; omega⟩
          · have he2 : (e == 0) = false := by simpa using he
            go_wp2
            exact ⟨⟨n + 1, by simp, by omega, ⟨HQ.out.below HW.out⟩, ⟨blk_below BY.out HW.out⟩⟩, by simp [intOf]; omega⟩
      case rest =>
        have HB := hcut
        go_wp2
        go_ret
        exact ⟨rfl, HB.out⟩
end Go.Proofs.Ythlllcmffgdcmab.Code
end

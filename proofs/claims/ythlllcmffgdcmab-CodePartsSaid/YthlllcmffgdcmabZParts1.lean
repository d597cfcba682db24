/- What a program has besides its instructions: the walk of the law. -/
import Derived.Test.YthlllcmffgdcmabZLaws0
section
namespace Go.Proofs.Ythlllcmffgdcmab.Code
open Go.RowKit Go.Proofs.YthlllcmffgdcmabW.PrintWords Go.Proofs.YthlllcmffgdcmabW.PrintLast Go.Proofs.YthlllcmffgdcmabW.PrintMore
open Go.Proofs.Ythlllcmffgdcmab.PCodeChecks
set_option linter.unusedVariables false
set_option linter.unusedSimpArgs false
def pW (w : World) (p c : Array Value) : World := (w.alloc (.cells p 112)).alloc (.cells c 134)
theorem pW_below (w : World) (p c : Array Value) : Below w.heap.size w (pW w p c) := below_alloc (below_alloc (Below.refl _ _) _) _
theorem pW_p (w : World) (p c : Array Value) : (pW w p c).heap[w.heap.size]? = some (.cells p 112 (0, 0)) := blk_alloc (blk_new w _) _
theorem pW_c (w : World) (p c : Array Value) : (pW w p c).heap[w.heap.size + 1]? = some (.cells c 134 (0, 0)) := by
  have := blk_new (w.alloc (.cells p 112)) (.cells c 134)
  rwa [show (w.alloc (.cells p 112)).heap.size = w.heap.size + 1 by simp] at this
set_option maxHeartbeats 8000000 in
set_option maxRecDepth 100000 in
theorem parts_law (A0 A1 A3 : Option Addr) (c0 c1 c3 : Nat) (l0 : List (List S128)) (l1 : List Int) (l3 : List S134) (locks room lk2 : Int) (cc : S134) (w : World)
    (hr0 : Kd.C (Kd.slice 128 k128) w A0 l0.length l0) (hc0 : l0.length ≤ c0) (hr1 : Kd.C (Kd.int .i64) w A1 l1.length l1) (hc1 : l1.length ≤ c1) (hr3 : Kd.C k134 w A3 l3.length l3) (hc3 : l3.length ≤ c3) :
    Calls Try.prog 14 #[.agg #[.slice A0 l0.length c0, .slice A1 l1.length c1, .int .i64 locks, .slice A3 l3.length c3], .int .i64 room, .int .i64 lk2, .agg #[.int .i64 cc.f0, .int .i64 cc.f1, .int .i64 cc.f2]] w fun e w' => e = .returned (.bool true) ∧ Below w.heap.size w w' := by
  have HR0 := Aside0.mk hr0
  have HR1 := Aside0.mk hr1
  have HR3 := Aside0.mk hr3
  have HC0 := Aside0.mk hc0
  have HC1 := Aside0.mk hc1
  have HC3 := Aside0.mk hc3
  clear hr0 hr1 hr3 hc0 hc1 hc3
  have HB := Aside0.mk (pW_below w #[.slice A0 l0.length c0, .slice A1 l1.length c1, .int .i64 locks, .slice A3 l3.length c3] #[.int .i64 cc.f0, .int .i64 cc.f1, .int .i64 cc.f2])
  have BP := Aside0.mk (pW_p w #[.slice A0 l0.length c0, .slice A1 l1.length c1, .int .i64 locks, .slice A3 l3.length c3] #[.int .i64 cc.f0, .int .i64 cc.f1, .int .i64 cc.f2])
  have BC := Aside0.mk (pW_c w #[.slice A0 l0.length c0, .slice A1 l1.length c1, .int .i64 locks, .slice A3 l3.length c3] #[.int .i64 cc.f0, .int .i64 cc.f1, .int .i64 cc.f2])
  go_enter Try.func14, Try.ntmps14
  go_upto_region 1 with (fail)
  change Code.wp _ _ _ _ (pW w #[.slice A0 l0.length c0, .slice A1 l1.length c1, .int .i64 locks, .slice A3 l3.length c3] #[.int .i64 cc.f0, .int .i64 cc.f1, .int .i64 cc.f2])
  generalize pW w #[.slice A0 l0.length c0, .slice A1 l1.length c1, .int .i64 locks, .slice A3 l3.length c3] #[.int .i64 cc.f0, .int .i64 cc.f1, .int .i64 cc.f2] = w2 at HB BP BC ⊢
  go_upto_region 3 with (go_at_call 50; (with_reducible refine (awake_calls _).mono ?_); rintro e w3 ⟨rfl, hb⟩; have BP2 := Aside0.mk (blk_below BP.out hb); have BC2 := Aside0.mk (blk_below BC.out hb); have HB2 := Aside0.mk (below_then HB.out HB.out.size hb); clear BP BC HB hb; have BP := BP2; have BC := BC2; have HB := HB2; clear BP2 BC2 HB2)
  have p0 : w3.cell? ⟨w.heap.size, 0, none⟩ = some (.slice A0 l0.length c0) := (blk_cell BP.out 0).trans rfl
  have p1 : w3.cell? ⟨w.heap.size, 1, none⟩ = some (.slice A1 l1.length c1) := (blk_cell BP.out 1).trans rfl
  have p2 : w3.cell? ⟨w.heap.size, 2, none⟩ = some (.int .i64 locks) := (blk_cell BP.out 2).trans rfl
  have p3 : w3.cell? ⟨w.heap.size, 3, none⟩ = some (.slice A3 l3.length c3) := (blk_cell BP.out 3).trans rfl
  go_cut [9] (fun v9 wx => ∃ gq v0 v1 v3 L0 L1 lk L3, v9 = .pointer (some ⟨gq, 0, none⟩) ∧ Aside0 (QL w wx gq v0 v1 lk v3 L0 L1 L3) ∧ Aside0 (wx.heap[w.heap.size + 1]? = some (.cells #[.int .i64 cc.f0, .int .i64 cc.f1, .int .i64 cc.f2] 134 (0, 0))) ∧ Aside0 (gq ≠ w.heap.size + 1) ∧ Aside0 (Ok L0 L1 lk L3))
  case first =>
    go_wp2_with (first
      | (go_at_call 51; (with_reducible refine (some_calls A0 A1 A3 c0 c1 c3 l0 l1 l3 locks _ (Kd.C_below HR0.out HB.out) HC0.out (Kd.C_below HR1.out HB.out) HC1.out (Kd.C_below HR3.out HB.out) HC3.out).mono ?_); rintro e w4 ⟨v0, v1, v3, L0, L1, lk, L3, rfl, s0, s1, s3, hb, hok⟩; have S0 := Aside0.mk (Kd.S_lower s0 HB.out.size); have S1 := Aside0.mk (Kd.R_lower s1 HB.out.size); have S3 := Aside0.mk (Kd.R_lower s3 HB.out.size); have OK := Aside0.mk hok; have BC2 := Aside0.mk (blk_below BC.out hb); have HB2 := Aside0.mk (below_then HB.out HB.out.size hb); clear BP BC HB hb s0 s1 s3 hok p0 p1 p2 p3; have BC := BC2; have HB := HB2; clear BC2 HB2; obtain ⟨B0, d0, rfl⟩ := Kd.S_slice S0.out; obtain ⟨B1, d1, rfl⟩ := Kd.R_slice S1.out; obtain ⟨B3, d3, rfl⟩ := Kd.R_slice S3.out)
      | ((with_reducible refine gate_dst (N := 9) rfl ?_); refine box_event ?hg (N := 9) ?hd (cs := #[.slice none 0 0, .slice none 0 0, .int .i64 0, .slice none 0 0]) (t := 112) ?hr ?_; (case hd => rfl); (case hg => rfl); (case hr => first | (go_simp; done) | (go_simp; rfl)); intro gq hg w5 hbox hb; have BQ := Aside0.mk hbox; have GQ : Aside0 (w.heap.size ≤ gq ∧ gq ≠ w.heap.size + 1) := ⟨by have h1 := blk_lt BC.out; have h2 := HB.out.size; omega⟩; clear hg hbox; have T0 := Aside0.mk (Kd.S_below S0.out hb); have T1 := Aside0.mk (Kd.R_below S1.out hb); have T3 := Aside0.mk (Kd.R_below S3.out hb); have BC2 := Aside0.mk (blk_below BC.out hb); have HB2 := Aside0.mk (below_then HB.out HB.out.size hb); clear BC HB hb S0 S1 S3; have BC := BC2; have HB := HB2; clear BC2 HB2; have o0 : w5.cell? ⟨gq, 0, none⟩ = some (.slice none 0 0) := (blk_cell BQ.out 0).trans rfl; have f0 := blk_frozen BQ.out 0; have o1 : w5.cell? ⟨gq, 1, none⟩ = some (.slice none 0 0) := (blk_cell BQ.out 1).trans rfl; have f1 := blk_frozen BQ.out 1; have o2 : w5.cell? ⟨gq, 2, none⟩ = some (.int .i64 0) := (blk_cell BQ.out 2).trans rfl; have f2 := blk_frozen BQ.out 2; have o3 : w5.cell? ⟨gq, 3, none⟩ = some (.slice none 0 0) := (blk_cell BQ.out 3).trans rfl; have f3 := blk_frozen BQ.out 3))
    go_meet
    exact ⟨gq, _, _, _, L0, L1, lk, L3, rfl, ⟨QL.mk4 T0.out T1.out T3.out HB.out GQ.out.1 BQ.out⟩, ⟨far4 BC.out GQ.out.2.symm _ _ _ _⟩, ⟨GQ.out.2⟩, OK⟩
  case rest =>
    obtain ⟨gq, v0, v1, v3, L0, L1, lk, L3, rfl, HQ, BC2, GC, OK⟩ := hcut
    clear BP BC HB p0 p1 p2 p3
    have BC := BC2
    clear BC2
    obtain ⟨B0, d0, B1, d1, B3, d3, rfl, rfl, rfl, _⟩ := HQ.out.reads
    have q1 : wc.cell? ⟨gq, 1, none⟩ = some (.slice B1 L1.length d1) := (blk_cell HQ.out.BQ 1).trans rfl
    go_upto_if 22 with (fail)
    go_cut [] (fun wx => ∃ (v1 : Value) (L1' : List Int), L1'.length = L1.length ∧ Aside0 (QL w wx gq (.slice B0 L0.length d0) v1 lk (.slice B3 L3.length d3) L0 L1' L3) ∧ Aside0 (wx.heap[w.heap.size + 1]? = some (.cells #[.int .i64 cc.f0, .int .i64 cc.f1, .int .i64 cc.f2] 134 (0, 0))))
    case first =>
      by_cases hz : L1.length = 0
      · have hz2 : ¬ (0 : Int) < L1.length := by omega
        go_wp2
        go_meet
        exact ⟨_, L1, rfl, HQ, BC⟩
      · have hz2 : (0 : Int) < L1.length := by omega
        obtain ⟨g1, cap1, hv, hg1, hg2, cells, hcells⟩ := Kd.R_form HQ.out.H1 (by omega)
        injection hv with hv1 hv2 hv3
        subst hv1 hv3
        have hz3 : 0 < L1.length := by omega
        obtain ⟨y0, yf0⟩ := Kd.R_cell (0 : Int) HQ.out.H1 0 (by omega) hz2
        replace y0 : wc.cell? ⟨g1, 0, none⟩ = some (.int .i64 (rdOf 0 L1 0)) := y0
        replace yf0 : wc.frozen? ⟨g1, 0, none⟩ = false := yf0
        go_wp2
        go_meet
        exact ⟨_, L1.set 0 room, by simp, ⟨HQ.out.chan room⟩, ⟨blk_far (p := ⟨g1, 0, none⟩) BC.out (blk_ne BC.out hcells (by decide)) _⟩⟩
    case rest =>
      obtain ⟨v1, L1', hl1, HQ2, BC2⟩ := hcut
      clear HQ BC q1
      have HQ := HQ2
      have BC := BC2
      clear HQ2 BC2
      obtain ⟨C0, e0, C1, e1, C3, e3, h0, rfl, h3, _⟩ := HQ.out.reads
      have HL1 := Aside0.mk hl1
      clear hl1 h0 h3
      have q2 : wc.cell? ⟨gq, 2, none⟩ = some (.int .i64 lk) := (blk_cell HQ.out.BQ 2).trans rfl
      have qf2 : wc.frozen? ⟨gq, 2, none⟩ = false := blk_frozen HQ.out.BQ 2
      go_upto_region 7 with (fail)
      have HQ2 := Aside0.mk (HQ.out.locks lk2)
      have BC2 := Aside0.mk (blk_far (p := ⟨gq, 2, none⟩) BC.out GC.out.symm (.int .i64 lk2))
      clear HQ BC q2 qf2
      have HQ := HQ2
      have BC := BC2
      clear HQ2 BC2
      change Code.wp _ _ _ _ (wc.setCell ⟨gq, 2, none⟩ (.int .i64 lk2))
      generalize (wc.setCell ⟨gq, 2, none⟩ (.int .i64 lk2)) = w7 at HQ BC ⊢
      have q3 : w7.cell? ⟨gq, 3, none⟩ = some (.slice B3 L3.length d3) := (blk_cell HQ.out.BQ 3).trans rfl
      have b0 : w7.cell? ⟨w.heap.size + 1, 0, none⟩ = some (.int .i64 cc.f0) := (blk_cell BC.out 0).trans rfl
      have b1 : w7.cell? ⟨w.heap.size + 1, 1, none⟩ = some (.int .i64 cc.f1) := (blk_cell BC.out 1).trans rfl
      have b2 : w7.cell? ⟨w.heap.size + 1, 2, none⟩ = some (.int .i64 cc.f2) := (blk_cell BC.out 2).trans rfl
      go_upto_region 8 with ((with_reducible refine gate_builtin (b := .append) (xs := #[.tmp 30, .tmp 32]) rfl ?_); at_builtin; refine Kd.R_append k134 (w0 := w) w.heap.size rfl (.tmp 30) (.tmp 32) 110 134 (.agg #[(.int .i64 0), (.int .i64 0), (.int .i64 0)]) 24 rfl Try.underlying110 info134 rfl (by decide) (by omega) (.slice B3 L3.length d3) L3 cc [.int .i64 cc.f0, .int .i64 cc.f1, .int .i64 cc.f2] (fun _ => True) (fun _ => False) rfl (by first | (go_simp; done) | (go_simp; rfl)) (k134_mkM _ _ _ cc) (fun _ hk => hk.elim) (fun _ _ => trivial) HQ.out.H3 HQ.out.HB HQ.out.HB.size (by have := OK.out.h3; omega) ?_; intro v4 w8 ho hb8 hg hat; clear hat; obtain ⟨L4, hL4⟩ : ∃ L4, L3 ++ [cc] = L4 := ⟨_, rfl⟩; rw [hL4] at ho; have HL4 := Aside0.mk (show L4.length = L3.length + 1 by rw [← hL4, List.length_append]; rfl); clear hL4; obtain ⟨A4, c4, rfl⟩ := Kd.R_slice ho; have HQ2 := Aside0.mk (HQ.out.push3 hg hb8 ho); have o3' : w8.cell? ⟨gq, 3, none⟩ = some (.slice B3 L3.length d3) := (blk_cell (HQ.out.mid3 hg) 3).trans rfl; have f3' : w8.frozen? ⟨gq, 3, none⟩ = false := blk_frozen (HQ.out.mid3 hg) 3; clear HQ BC hg ho hb8 q3 b0 b1 b2)
      clear o3' f3'
      change Code.wp _ _ _ _ (w8.setCell ⟨gq, 3, none⟩ (.slice A4 L4.length c4))
      have HQ := HQ2
      clear HQ2
      generalize (w8.setCell ⟨gq, 3, none⟩ (.slice A4 L4.length c4)) = w9 at HQ ⊢
      obtain ⟨a, b, e, h55, h52, -⟩ := both L0 L1' lk2 L4 (by have := OK.out.h0; omega) (fun f hf => by
        obtain ⟨n, hn, rfl⟩ := List.getElem_of_mem hf
        have := (OK.out.rows n hn).2
        have e : rd_L5 L0 (n : Nat) = L0[n] := by show L0.getD (n : Int).toNat [] = _; rw [List.getD_eq_getElem?_getD, Int.toNat_natCast, List.getElem?_eq_getElem hn]; rfl
        rw [e] at this
        omega) (by have := OK.out.h1; have := HL1.out; omega) (by have := OK.out.h3; have := HL4.out; omega)
      have H55 := Aside0.mk h55
      have H52 := Aside0.mk h52
      clear h55 h52
      have x0 : w9.cell? ⟨gq, 0, none⟩ = some (.slice B0 L0.length d0) := (blk_cell HQ.out.BQ 0).trans rfl
      have x1 : w9.cell? ⟨gq, 1, none⟩ = some (.slice C1 L1'.length e1) := (blk_cell HQ.out.BQ 1).trans rfl
      have x2 : w9.cell? ⟨gq, 2, none⟩ = some (.int .i64 lk2) := (blk_cell HQ.out.BQ 2).trans rfl
      have x3 : w9.cell? ⟨gq, 3, none⟩ = some (.slice A4 L4.length c4) := (blk_cell HQ.out.BQ 3).trans rfl
      go_upto_region 10 with (first
        | (go_at_call 55; (obtain ⟨r0, m0, r1, m1, r3, m3⟩ := HQ.out.rd); (with_reducible refine (H55.out _ _ _ _ _ _ _ r0 m0 r1 m1 r3 m3).mono ?_); clear r0 m0 r1 m1 r3 m3; rintro x wA ⟨rfl, hb⟩; have HQ2 := Aside0.mk (HQ.out.below hb); clear HQ hb x0 x1 x2 x3; have HQ := HQ2; clear HQ2; have x0 : wA.cell? ⟨gq, 0, none⟩ = some (.slice B0 L0.length d0) := (blk_cell HQ.out.BQ 0).trans rfl; have x1 : wA.cell? ⟨gq, 1, none⟩ = some (.slice C1 L1'.length e1) := (blk_cell HQ.out.BQ 1).trans rfl; have x2 : wA.cell? ⟨gq, 2, none⟩ = some (.int .i64 lk2) := (blk_cell HQ.out.BQ 2).trans rfl; have x3 : wA.cell? ⟨gq, 3, none⟩ = some (.slice A4 L4.length c4) := (blk_cell HQ.out.BQ 3).trans rfl)
        | (go_at_call 52; (obtain ⟨r0, m0, r1, m1, r3, m3⟩ := HQ.out.rd); (with_reducible refine (H52.out _ _ _ _ _ _ _ r0 m0 r1 m1 r3 m3).mono ?_); clear r0 m0 r1 m1 r3 m3; rintro x wB ⟨u0, u1, u3, rfl, hb, h53⟩; have R53 := Aside0.mk (h53 _ rfl); clear h53; have HB := Aside0.mk (HQ.out.below hb).HB; clear HQ hb x0 x1 x2 x3)
        | (go_at_call 53; (with_reducible refine R53.out.mono ?_); rintro x wC ⟨rfl, hb⟩; clear R53; have HB2 := Aside0.mk (below_then HB.out HB.out.size hb); clear HB hb; have HB := HB2; clear HB2)
        | ((with_reducible refine gate_dst (N := 13) rfl ?_); refine box_event ?hg (N := 13) ?hd (cs := #[.int .i64 0, .int .i64 0, .int .i64 0]) (t := 116) ?hr ?_; (case hd => rfl); (case hg => rfl); (case hr => first | (go_simp; done) | (go_simp; rfl)); intro gf hg wD hbox hb; have BF := Aside0.mk hbox; have GF : Aside0 (w.heap.size ≤ gf) := ⟨by have h2 := HB.out.size; omega⟩; clear hg hbox; have HB2 := Aside0.mk (below_then HB.out HB.out.size hb); clear HB hb; have HB := HB2; clear HB2; have o0 : wD.cell? ⟨gf, 0, none⟩ = some (.int .i64 0) := (blk_cell BF.out 0).trans rfl; have f0 := blk_frozen BF.out 0; have o1 : wD.cell? ⟨gf, 1, none⟩ = some (.int .i64 0) := (blk_cell BF.out 1).trans rfl; have f1 := blk_frozen BF.out 1; have o2 : wD.cell? ⟨gf, 2, none⟩ = some (.int .i64 0) := (blk_cell BF.out 2).trans rfl; have f2 := blk_frozen BF.out 2))
      have BF2 := Aside0.mk (three_set BF.out (.int .i64 a) (.int .i64 b) (.int .i64 e))
      have HB2 := Aside0.mk (((HB.out.setCell (p := ⟨gf, 0, none⟩) GF.out (.int .i64 a)).setCell (p := ⟨gf, 1, none⟩) GF.out (.int .i64 b)).setCell (p := ⟨gf, 2, none⟩) GF.out (.int .i64 e))
      clear HB BF o0 o1 o2 f0 f1 f2
      have HB := HB2
      have BF := BF2
      clear HB2 BF2
      change Code.wp _ _ _ _ (((wD.setCell ⟨gf, 0, none⟩ (.int .i64 a)).setCell ⟨gf, 1, none⟩ (.int .i64 b)).setCell ⟨gf, 2, none⟩ (.int .i64 e))
      generalize (((wD.setCell ⟨gf, 0, none⟩ (.int .i64 a)).setCell ⟨gf, 1, none⟩ (.int .i64 b)).setCell ⟨gf, 2, none⟩ (.int .i64 e)) = wE at HB BF ⊢
      have o0 : wE.cell? ⟨gf, 0, none⟩ = some (.int .i64 a) := (blk_cell BF.out 0).trans rfl
      have o1 : wE.cell? ⟨gf, 1, none⟩ = some (.int .i64 b) := (blk_cell BF.out 1).trans rfl
      have o2 : wE.cell? ⟨gf, 2, none⟩ = some (.int .i64 e) := (blk_cell BF.out 2).trans rfl
      by_cases he : e = 0
      · subst he
        go_wp2
        go_ret
        exact ⟨rfl, HB.out⟩
      · have he2 : (e == 0) = false := by simpa using he
        go_wp2
        go_ret
        exact ⟨rfl, HB.out⟩
end Go.Proofs.Ythlllcmffgdcmab.Code
end

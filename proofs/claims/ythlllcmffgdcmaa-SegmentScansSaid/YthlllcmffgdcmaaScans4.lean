/- SegmentScans: the law. -/
import Derived.Test.YthlllcmffgdcmaaScans3
import Derived.Deep.DeepCutAuto
import Derived.Deep.CutBlock
import Derived.StillTailTactics
namespace Go.Proofs.Ythlllcmffgdcmaa.Scans
open Go.RowKit Go.Proofs.Ythlllcmffgdcmaa.QSegmentOpens Go.Proofs.YthlllcmffgdcmaaW.PrintWords Go.Proofs.YthlllcmffgdcmaaW.PrintLast Go.Proofs.YthlllcmffgdcmaaW.PrintMore Go.Proofs.Ythlllcmffgdcmaa.LebPlain Go.Proofs.Ythlllcmffgdcmaa.LebWords Go.Proofs.Ythlllcmffgdcmaa.SegPlain Go.Proofs.Ythlllcmffgdcmaa.SegLinkQSegmentOpens Go.Proofs.Ythlllcmffgdcmaa.Spoilt Go.Proofs.Ythlllcmffgdcmaa.Scan Go.Proofs.Ythlllcmffgdcmaa.RefOpen
set_option linter.unusedVariables false
set_option linter.unusedSimpArgs false

theorem frame_any (q : Nat) (hs : q < 18446744073709551616) (body : ByteArray) (h : body.size ≤ 60) (w : World) :
    Calls Try.prog 30 #[.int .u64 (q : Int), .string body] w fun e w' => ∃ F, e = .returned (.tuple #[.string F, .int .i64 0]) ∧ F.size ≤ 100 ∧ Below w.heap.size w w' := by
  have h2 := frameL_len q (bl body)
  have h3 := headOf_len q (bl body).length
  have h4 := putN_len q hs
  have h5 := putN_len (bl body).length (by rw [bl_length]; omega)
  have h6 := bl_length body
  refine (frame_calls q hs body _ (by omega) rfl w).mono fun e w' ⟨h1, hb⟩ => ⟨_, h1, ?_, hb⟩
  rw [← bl_length, bl_strB _ (frameL_lt _ _ (bl_lt _))]
  omega

/-- What stands while the text is written. -/
def Txt (w w0 : World) (stop : Int) (W : World) : Prop := Below (w.heap.size + 1) w0 W ∧ W.heap[w.heap.size]? = some (.cells #[.int .i64 stop] 3 (0, 0))

theorem bdys_at (s : ByteArray) (i j : Nat) (h : j < i) : rdOf ByteArray.empty (bdys s i) (j : Int) = bdy s j := by
  have h1 : j < (bdys s i).length := by rw [bdys_len]; omega
  unfold rdOf
  rw [Int.toNat_natCast, List.getD_eq_getElem?_getD, List.getElem?_eq_getElem h1]
  simp [bdys]
/-- The last loop's state. -/
def Ends2 (w : World) (g : Nat) (Ag Av : Option Addr) (m cg n : Nat) (t : ByteArray) (W : World) : Prop :=
  W.cell? ⟨g, 0, none⟩ = some (.slice Ag m cg) ∧ ReadsOf Value.string ByteArray.empty W Ag (bdys t m).length (bdys t m) ∧ ReadsOf Value.string ByteArray.empty W Av (bdys t n).length (bdys t n) ∧ Below w.heap.size w W
theorem Ends2.drewN {w : World} {g : Nat} {Ag Av : Option Addr} {m cg n : Nat} {t : ByteArray} {W : World} (h : Ends2 w g Ag Av m cg n t W) (k : Nat) : Ends2 w g Ag Av m cg n t (W.drewN k) := ⟨h.1, h.2.1.drewN k, h.2.2.1.drewN k, ⟨h.2.2.2.os, h.2.2.2.tape, h.2.2.2.output, h.2.2.2.size, h.2.2.2.block⟩⟩
theorem restop {w0 : World} {B g st en base : Nat} {stop : Int} {vg ve v : Value} {xs ys : List ByteArray} {es : List Int} {W : World} (h : St w0 B g st en stop vg ve xs es vg ve W) (x : Int) (hv : W.ownsRow base 9 1 v ys.length (encs Value.string ys)) (hb : st < base) :
    (W.setCell ⟨st, 0, none⟩ (.int .i64 x)).cell? ⟨g, 0, none⟩ = some vg ∧ (W.setCell ⟨st, 0, none⟩ (.int .i64 x)).cell? ⟨en, 0, none⟩ = some ve ∧ (W.setCell ⟨st, 0, none⟩ (.int .i64 x)).cell? ⟨st, 0, none⟩ = some (.int .i64 x) ∧
    (W.setCell ⟨st, 0, none⟩ (.int .i64 x)).ownsRow B 9 1 vg xs.length (encs Value.string xs) ∧ (W.setCell ⟨st, 0, none⟩ (.int .i64 x)).ownsRow B 3 1 ve es.length (nums .i64 es) ∧ (W.setCell ⟨st, 0, none⟩ (.int .i64 x)).ownsRow base 9 1 v ys.length (encs Value.string ys) := by
  have h1 := h.lt; have h2 := h.bg; have h3 := h.be
  have n1 : g ≠ st := by omega
  have n2 : en ≠ st := by omega
  have f := h.two
  refine ⟨?_, ?_, ?_, own_setCell h.og (p := ⟨st, 0, none⟩) (fun hh => by have := own_base h.og st hh.symm; omega) _, own_setCell h.oe (p := ⟨st, 0, none⟩) (fun hh => by have := own_base h.oe st hh.symm; omega) _, own_setCell hv (p := ⟨st, 0, none⟩) (fun hh => by have := own_base hv st hh.symm; omega) _⟩
  · rw [World.cell?_setCell_other _ _ _ _ (by intro hh; injection hh with hh; exact n1 hh.symm)]; exact f.1
  · rw [World.cell?_setCell_other _ _ _ _ (by intro hh; injection hh with hh; exact n2 hh.symm)]; exact f.2
  · exact World.cell?_setCell_same _ _ _ ((blk_cell h.cs 0).trans rfl)
theorem Seen.cell {w0 : World} {B g st en : Nat} {stop : Int} {s : ByteArray} {i : Nat} {W : World} (h : Seen w0 B g st en stop s i W) : W.heap[st]? = some (.cells #[.int .i64 stop] 3 (0, 0)) := by
  obtain ⟨_, _, h⟩ := h; exact h.cs
/-- The world ahead of the scan. -/
def aheadW (w4 : World) : World := (((w4.alloc (Obj.cells #[] 9)).alloc (Obj.cells #[Value.slice (some { block := w4.heap.size, off := 0 }) 0 0] 62)).alloc (Obj.cells #[Value.int IntKind.i64 0] 3)).alloc (Obj.cells #[Value.slice (some { block := w4.heap.size + 1 + 1, off := 0 }) 1 1] 65)
theorem ahead_seen (w4 : World) (st : Nat) (stop : Int) (s : ByteArray) (hst : st < w4.heap.size) (hs : w4.heap[st]? = some (.cells #[.int .i64 stop] 3 (0, 0))) : Seen w4 w4.heap.size (w4.heap.size + 1) st (w4.heap.size + 1 + 1 + 1) stop s 0 (aheadW w4) := by
  have z1 : (w4.alloc (Obj.cells #[] 9)).heap.size = w4.heap.size + 1 := by simp
  have z2 : ((w4.alloc (Obj.cells #[] 9)).alloc (Obj.cells #[Value.slice (some { block := w4.heap.size, off := 0 }) 0 0] 62)).heap.size = w4.heap.size + 1 + 1 := by simp
  have z3 : (((w4.alloc (Obj.cells #[] 9)).alloc (Obj.cells #[Value.slice (some { block := w4.heap.size, off := 0 }) 0 0] 62)).alloc (Obj.cells #[Value.int IntKind.i64 0] 3)).heap.size = w4.heap.size + 1 + 1 + 1 := by simp
  have o1 := own_lit_of (enc := Value.string) w4 w4.heap.size 9 ([] : List ByteArray) (Nat.le_refl _) (by simp)
  have o2 := own_lit ((w4.alloc (Obj.cells #[] 9)).alloc (Obj.cells #[Value.slice (some { block := w4.heap.size, off := 0 }) 0 0] 62)) w4.heap.size 3 .i64 [0] (by omega) (by simp)
  rw [z2] at o2
  have c1 := blk_new (w4.alloc (Obj.cells #[] 9)) (Obj.cells #[Value.slice (some { block := w4.heap.size, off := 0 }) 0 0] 62)
  rw [z1] at c1
  have c2 := blk_new (((w4.alloc (Obj.cells #[] 9)).alloc (Obj.cells #[Value.slice (some { block := w4.heap.size, off := 0 }) 0 0] 62)).alloc (Obj.cells #[Value.int IntKind.i64 0] 3)) (Obj.cells #[Value.slice (some { block := w4.heap.size + 1 + 1, off := 0 }) 1 1] 65)
  rw [z3] at c2
  refine ⟨.slice (some ⟨w4.heap.size, 0, none⟩) 0 0, .slice (some ⟨w4.heap.size + 1 + 1, 0, none⟩) 1 1, blk_alloc (blk_alloc c1 _) _, blk_alloc (blk_alloc (blk_alloc (blk_alloc hs _) _) _) _, c2, own_alloc (own_alloc (own_alloc o1 _) _) _, own_alloc o2 _, hst, by omega, by omega, ?_, below_alloc (below_alloc (below_alloc (below_alloc (Below.refl _ _) _) _) _) _⟩
  unfold aheadW; simp; omega

set_option maxHeartbeats 4000000 in
set_option maxRecDepth 100000 in
theorem scans_law (seq : Nat) (hseq : seq < 18446744073709551616) (xs : List ByteArray) (A : Option Addr) (cap : Nat) (odd : Int) (more : ByteArray) (stop : Int) (w : World) (hx : ReadsOf Value.string ByteArray.empty w A xs.length xs) :
    Calls Try.prog 10 #[.int .u64 (seq : Int), .slice A xs.length cap, .int .i64 odd, .string more, .int .i64 stop] w fun e w' => e = .returned (.bool true) ∧ Below w.heap.size w w' := by
  have HX := Aside0.mk hx
  clear hx
  have HB0 := Aside0.mk (below_alloc (Below.refl w.heap.size w) (Obj.cells #[Value.int .i64 stop] 3))
  have HC0 := Aside0.mk (blk_new w (Obj.cells #[Value.int .i64 stop] 3))
  have HS0 := Aside0.mk (show (w.alloc (Obj.cells #[Value.int .i64 stop] 3)).heap.size = w.heap.size + 1 by simp)
  go_enter Try.func10, Try.ntmps10
  go_upto_block 0 with (first
    | (go_at_call 29; (with_reducible refine (awake_calls _).mono ?_); rintro e w1 ⟨rfl, hb⟩; have B1 := Aside0.mk hb; clear hb))
  obtain ⟨w0, hw0⟩ : ∃ w0, w0 = w.alloc (Obj.cells #[Value.int .i64 stop] 3) := ⟨_, rfl⟩
  rw [← hw0] at HB0 HC0 HS0 B1
  have T1 := Aside0.mk (show Txt w w0 stop w1 from ⟨HS0.out ▸ B1.out, blk_below HC0.out B1.out⟩)
  clear hw0
  go_cut [11] (fun v11 wx => ∃ s : ByteArray, s.size ≤ 800 ∧ v11 = .string s ∧ Txt w w0 stop wx)
  case first =>
    go_wp2
    go_loopw [11, 12] (fun v x wr => ∃ (k : Nat) (s : ByteArray), k ≤ 8 ∧ k ≤ xs.length ∧ x = .int .i64 k ∧ s.size ≤ 100 * k ∧ v = .string s ∧ Txt w w0 stop wr) (fun _ x _ => 8 - (intOf x).toNat)
    case atStart => exact ⟨0, ⟨#[]⟩, by omega, by omega, rfl, by decide, rfl, T1.out⟩
    case round =>
      obtain ⟨k, s, hk8, hk, rfl, hsz, rfl, hT⟩ := hrel
      have HT := Aside0.mk hT
      clear hT
      by_cases hlt : k < xs.length
      · have q1 : decide ((k : Int) < (xs.length : Int)) = true := decide_eq_true (by omega)
        by_cases h8 : k < 8
        · have q2 : decide ((k : Int) < 8) = true := decide_eq_true (by omega)
          have hBw : Below w.heap.size w wr := HB0.out.trans (HT.out.1.mono (by omega))
          obtain ⟨ad0, e0, k0⟩ := (HX.out.below hBw).at_ (k : Int) (by omega) (by omega)
          subst e0
          rw [Int.toNat_natCast] at k0
          clear hBw
          obtain ⟨bd, hbd⟩ : ∃ bd, bd = cutS (rdOf ByteArray.empty xs (k : Int)) 60 := ⟨_, rfl⟩
          have hb60 : bd.size ≤ 60 := by rw [hbd]; exact cutS_size _ 60
          have HBd := Aside0.mk hbd
          generalize rdOf ByteArray.empty xs (k : Int) = x at k0 HBd
          clear hbd
          obtain ⟨q, hq, hq1⟩ : ∃ q : Nat, ((seq : Int) + (k : Int)) % 18446744073709551616 = (q : Int) ∧ q < 18446744073709551616 := ⟨(seq + k) % 18446744073709551616, by omega, by omega⟩
          have hqw : IntKind.u64.wrap ((seq : Int) + (k : Int)) = (q : Int) := by rw [IntKind.wrap_u64]; exact hq
          obtain ⟨q5, hq5, hq51⟩ : ∃ q5 : Nat, ((q : Int) + 5) % 18446744073709551616 = (q5 : Int) ∧ q5 < 18446744073709551616 := ⟨(q + 5) % 18446744073709551616, by omega, by omega⟩
          have hq5w : IntKind.u64.wrap ((q : Int) + 5) = (q5 : Int) := by rw [IntKind.wrap_u64]; exact hq5
          have HQ := Aside0.mk (And.intro hq1 hq51)
          clear hq1 hq51 hq hq5
          have H60 := Aside0.mk hb60
          clear hb60
          by_cases hodd : (k : Int) = odd
          · have q3 : ((k : Int) == odd) = true := beq_iff_eq.2 hodd
            clear hodd
            go_wp2_with (first
              | (go_at_call 25; (with_reducible refine (cut_calls _ 60 60 rfl _).mono ?_); rintro e w3 ⟨rfl, rfl⟩; rw [← HBd.out])
              | (go_at_call 30; (with_reducible refine (frame_any q5 HQ.out.2 bd H60.out wr).mono ?_); rintro e w3 ⟨F, rfl, hF, hb⟩; have HT3a := below_then HT.out.1 (by have := HT.out.1.size; have := HS0.out; omega) hb; have HT3b := blk_below HT.out.2 hb; have HT3 := Aside0.mk (show Txt w w0 stop w3 from ⟨HT3a, HT3b⟩); have hno : ¬ 9223372036854775807 < s.size + F.size := (by omega); clear hb HT3a HT3b))
            exact ⟨⟨k + 1, s ++ F, by omega, by omega, by go_num, by rw [ByteArray.size_append]; omega, rfl, HT3.out⟩, by simp [intOf]; omega⟩
          · have q3 : ((k : Int) == odd) = false := beq_eq_false_iff_ne.2 hodd
            clear hodd
            go_wp2_with (first
              | (go_at_call 25; (with_reducible refine (cut_calls _ 60 60 rfl _).mono ?_); rintro e w3 ⟨rfl, rfl⟩; rw [← HBd.out])
              | (go_at_call 30; (with_reducible refine (frame_any q HQ.out.1 bd H60.out wr).mono ?_); rintro e w3 ⟨F, rfl, hF, hb⟩; have HT3a := below_then HT.out.1 (by have := HT.out.1.size; have := HS0.out; omega) hb; have HT3b := blk_below HT.out.2 hb; have HT3 := Aside0.mk (show Txt w w0 stop w3 from ⟨HT3a, HT3b⟩); have hno : ¬ 9223372036854775807 < s.size + F.size := (by omega); clear hb HT3a HT3b))
            exact ⟨⟨k + 1, s ++ F, by omega, by omega, by go_num, by rw [ByteArray.size_append]; omega, rfl, HT3.out⟩, by simp [intOf]; omega⟩
        · have q2 : decide ((k : Int) < 8) = false := decide_eq_false (by omega)
          go_wp2
          go_meet
          exact ⟨s, by omega, rfl, HT.out⟩
      · have q1 : decide ((k : Int) < (xs.length : Int)) = false := decide_eq_false (by omega)
        go_wp2
        go_meet
        exact ⟨s, by omega, rfl, HT.out⟩
  case rest =>
    obtain ⟨s, hsz, rfl, hT⟩ := hcut
    have HT := Aside0.mk hT
    clear hT
    obtain ⟨mo, hmo⟩ : ∃ mo, mo = cutS more 20 := ⟨_, rfl⟩
    have hm20 : mo.size ≤ 20 := by rw [hmo]; exact cutS_size _ 20
    have HMo := Aside0.mk hmo
    clear hmo
    have hno : ¬ 9223372036854775807 < s.size + mo.size := by omega
    have hts : (s ++ mo).size = s.size + mo.size := ByteArray.size_append
    obtain ⟨t, ht⟩ : ∃ t, t = s ++ mo := ⟨_, rfl⟩
    have ht1000 : t.size ≤ 1000 := by rw [ht]; omega
    have HTx := Aside0.mk ht
    have HTs := Aside0.mk ht1000
    clear ht ht1000 hts
    obtain ⟨n, hn, hok, hstop⟩ := stops t seq
    have HN := Aside0.mk (And.intro hn (And.intro hok hstop))
    clear hn hok hstop
    by_cases hin : 0 ≤ stop ∧ stop ≤ (n : Int)
    · obtain ⟨m, rfl⟩ := Int.eq_ofNat_of_zero_le hin.1
      have hmn : m ≤ n := by omega
      have hmm : howMany n (m : Int) = m := by unfold howMany; rw [if_pos hin]; simp
      have hm0 : ¬ ((m : Int) < 0) := by omega
      have q5 : decide ((n : Int) < (m : Int)) = false := decide_eq_false (by omega)
      clear hin
      have hq : (((m : Int) == (n : Int)) = false ∧ True) ∨ (((m : Int) == (n : Int)) = true ∧ ((stp t m : Int) != (stp t n : Int)) = false) := by
        by_cases h : m = n
        · right; subst h; simp
        · left; exact ⟨beq_eq_false_iff_ne.2 (by omega), trivial⟩
      have hm1000 : m ≤ 1000 := by have := HN.out.1; have := HTs.out; omega
      rcases hq with ⟨q7, q8⟩ | ⟨q7, q8⟩
      all_goals
        have c9 : wc.cell? ⟨w.heap.size, 0, none⟩ = some (.int .i64 (m : Int)) := (blk_cell HT.out.2 0).trans rfl
        go_wp2_with (first
          | (go_at_call 25; (with_reducible refine (cut_calls _ 20 20 rfl _).mono ?_); rintro e w3 ⟨rfl, rfl⟩; rw [← HMo.out])
          | (go_at_call 34; rw [← HTx.out]; (with_reducible refine (refscan_calls t HTs.out seq n hseq HN.out.1 HN.out.2.1 HN.out.2.2 wc).mono ?_); rintro e w4 ⟨v, rfl, hO, hb⟩; have HT4a := below_then HT.out.1 (by have := HT.out.1.size; have := HS0.out; omega) hb; have HT4b := blk_below HT.out.2 hb; have HT4 := Aside0.mk (show Txt w w0 (m : Int) w4 from ⟨HT4a, HT4b⟩); obtain ⟨Av, cv, rfl, hRv⟩ := own_reads_of (d := ByteArray.empty) hO; rw [bdys_len]; have HO4 := Aside0.mk hO; have HRv := Aside0.mk hRv; have B4 := Aside0.mk hb; clear hb hO hRv HT4a HT4b c9)
          | (go_at_call 35; refine (scan36 w4 _ w4.heap.size (w4.heap.size + 1) w.heap.size (w4.heap.size + 1 + 1 + 1) (m : Int) t seq n HTs.out hseq HN.out.1 HN.out.2.1 HN.out.2.2 (ahead_seen w4 w.heap.size (m : Int) t (by have := HT4.out.1.size; have := HS0.out; omega) HT4.out.2)).mono ?_; rintro e w5 ⟨rfl, vg, ve, hS⟩; obtain ⟨Ag, cg, rfl, hRg⟩ := own_reads_of (d := ByteArray.empty) hS.og; obtain ⟨Ae, ce, rfl, hRe⟩ := own_reads hS.oe; have kg := (blk_cell hS.cg 0).trans rfl; have ke := (blk_cell hS.ce 0).trans rfl; have k9 := (blk_cell hS.cs 0).trans rfl; rw [hmm] at hRg hRe kg ke ⊢; rw [bdys_len] at kg; rw [stps_len] at ke; have HS5 := Aside0.mk hS; have HRg := Aside0.mk hRg; have HRe := Aside0.mk hRe; have HRv5 := Aside0.mk (HRv.out.below hS.bl); obtain ⟨ad1, e1, kl⟩ := hRe.at_ (m : Int) (by omega) (by rw [stps_len]; omega); subst e1; rw [stps_last, Int.toNat_natCast] at kl; clear hS hRg hRe))
      all_goals
        have HB5 := Aside0.mk (show Below w.heap.size w w5 from HB0.out.trans ((below_then HT4.out.1 (by have := HT4.out.1.size; have := HS0.out; omega) HS5.out.bl).mono (by omega)))
        have HE5 := Aside0.mk (show Ends2 w (w4.heap.size + 1) Ag Av m cg n t w5 from ⟨kg.trans rfl, HRg.out, HRv5.out, HB5.out⟩)
        clear kg ke k9 kl
        go_loopw [111] (fun x wr => ∃ j : Nat, j ≤ m ∧ x = .int .i64 j ∧ Ends2 w (w4.heap.size + 1) Ag Av m cg n t wr) (fun x _ => m - (intOf x).toNat)
        case atStart => exact ⟨0, Nat.zero_le _, rfl, HE5.out⟩
        case round =>
          obtain ⟨j, hj, rfl, hE⟩ := hrel
          have HE := Aside0.mk hE
          obtain ⟨kg, hg1, hv1, _⟩ := hE
          by_cases hjm : j < m
          · have q1 : decide ((j : Int) < (m : Int)) = true := decide_eq_true (by omega)
            obtain ⟨ag, e1, r1⟩ := hg1.at_ (j : Int) (by omega) (by rw [bdys_len]; omega)
            obtain ⟨av, e2, r2⟩ := hv1.at_ (j : Int) (by omega) (by rw [bdys_len]; omega)
            subst e1 e2
            rw [bdys_at _ _ _ hjm, Int.toNat_natCast] at r1
            rw [bdys_at _ _ _ (by omega), Int.toNat_natCast] at r2
            have hb1 : ((bdy t j).toList != (bdy t j).toList) = false := by simp
            clear hg1 hv1
            go_wp2
            go_quiet (fail)
            go_wp2
            exact ⟨⟨j + 1, by omega, by go_num, HE.out.drewN _⟩, by simp [intOf]; omega⟩
          · have q1 : decide ((j : Int) < (m : Int)) = false := decide_eq_false (by omega)
            go_wp2
            go_ret
            exact ⟨rfl, HE.out.2.2.2⟩
    · have hmm : howMany n stop = n := by unfold howMany; rw [if_neg hin]
      have hq : (decide (stop < 0) = true ∧ True) ∨ (decide (stop < 0) = false ∧ decide ((n : Int) < stop) = true) := by
        by_cases h : stop < 0
        · left; exact ⟨decide_eq_true h, trivial⟩
        · right; exact ⟨decide_eq_false h, decide_eq_true (by omega)⟩
      clear hin
      have hn1000 : n ≤ 1000 := by have := HN.out.1; have := HTs.out; omega
      rcases hq with ⟨q4, q5⟩ | ⟨q4, q5⟩
      all_goals
        have c9 : wc.cell? ⟨w.heap.size, 0, none⟩ = some (.int .i64 stop) := (blk_cell HT.out.2 0).trans rfl
        go_wp2_with (first
          | (go_at_call 25; (with_reducible refine (cut_calls _ 20 20 rfl _).mono ?_); rintro e w3 ⟨rfl, rfl⟩; rw [← HMo.out])
          | (go_at_call 34; rw [← HTx.out]; (with_reducible refine (refscan_calls t HTs.out seq n hseq HN.out.1 HN.out.2.1 HN.out.2.2 wc).mono ?_); rintro e w4 ⟨v, rfl, hO, hb⟩; have HT4a := below_then HT.out.1 (by have := HT.out.1.size; have := HS0.out; omega) hb; have HT4b := blk_below HT.out.2 hb; have HT4 := Aside0.mk (show Txt w w0 stop w4 from ⟨HT4a, HT4b⟩); obtain ⟨Av, cv, rfl, hRv⟩ := own_reads_of (d := ByteArray.empty) hO; rw [bdys_len]; have HO4 := Aside0.mk hO; have HRv := Aside0.mk hRv; have B4 := Aside0.mk hb; clear hb hO hRv HT4a HT4b c9)
          | (go_at_call 35; refine (scan36 w4 _ w4.heap.size (w4.heap.size + 1) w.heap.size (w4.heap.size + 1 + 1 + 1) stop t seq n HTs.out hseq HN.out.1 HN.out.2.1 HN.out.2.2 (ahead_seen w4 w.heap.size stop t (by have := HT4.out.1.size; have := HS0.out; omega) HT4.out.2)).mono ?_; rintro e w5 ⟨rfl, vg, ve, hS⟩; have hv5 := pw_own_below HO4.out hS.bl; have f9 := blk_frozen hS.cs 0; have k9 := (blk_cell hS.cs 0).trans rfl; obtain ⟨kg, ke, k99, hg6, he6, hv6⟩ := restop hS (n : Int) hv5 (by have h2 := HT.out.1.size; have h3 := HS0.out; omega); rw [hmm] at hg6 he6 ⊢; have HB5 := Aside0.mk hS.bl; obtain ⟨Ag, cg, rfl, hRg⟩ := own_reads_of (d := ByteArray.empty) hg6; obtain ⟨Ae, ce, rfl, hRe⟩ := own_reads he6; have hRv6 := own_reads_of' (d := ByteArray.empty) hv6; rw [bdys_len] at kg; rw [stps_len] at ke; have HRg := Aside0.mk hRg; have HRe := Aside0.mk hRe; have HRv5 := Aside0.mk hRv6; obtain ⟨ad1, e1, kl⟩ := hRe.at_ (n : Int) (by omega) (by rw [stps_len]; omega); subst e1; rw [stps_last, Int.toNat_natCast] at kl; clear hS hRg hRe hg6 he6 hv6 hRv6 hv5))
      all_goals
        have HB6 := Aside0.mk (show Below w.heap.size w (w5.setCell ⟨w.heap.size, 0, none⟩ (.int .i64 (n : Int))) from (HB0.out.trans ((below_then HT4.out.1 (by have := HT4.out.1.size; have := HS0.out; omega) HB5.out).mono (by omega))).setCell (Nat.le_refl _) _)
        have HE5 := Aside0.mk (show Ends2 w (w4.heap.size + 1) Ag Av n cg n t (w5.setCell ⟨w.heap.size, 0, none⟩ (.int .i64 (n : Int))) from ⟨kg, HRg.out, HRv5.out, HB6.out⟩)
        clear kg ke k9 kl f9 k99
        go_loopw [111] (fun x wr => ∃ j : Nat, j ≤ n ∧ x = .int .i64 j ∧ Ends2 w (w4.heap.size + 1) Ag Av n cg n t wr) (fun x _ => n - (intOf x).toNat)
        case atStart => exact ⟨0, Nat.zero_le _, rfl, HE5.out⟩
        case round =>
          obtain ⟨j, hj, rfl, hE⟩ := hrel
          have HE := Aside0.mk hE
          obtain ⟨kg, hg1, hv1, _⟩ := hE
          by_cases hjm : j < n
          · have q1 : decide ((j : Int) < (n : Int)) = true := decide_eq_true (by omega)
            obtain ⟨ag, e1, r1⟩ := hg1.at_ (j : Int) (by omega) (by rw [bdys_len]; omega)
            obtain ⟨av, e2, r2⟩ := hv1.at_ (j : Int) (by omega) (by rw [bdys_len]; omega)
            subst e1 e2
            rw [bdys_at _ _ _ hjm, Int.toNat_natCast] at r1
            rw [bdys_at _ _ _ (by omega), Int.toNat_natCast] at r2
            have hb1 : ((bdy t j).toList != (bdy t j).toList) = false := by simp
            clear hg1 hv1
            go_wp2
            go_quiet (fail)
            go_wp2
            exact ⟨⟨j + 1, by omega, by go_num, HE.out.drewN _⟩, by simp [intOf]; omega⟩
          · have q1 : decide ((j : Int) < (n : Int)) = false := decide_eq_false (by omega)
            go_wp2
            go_ret
            exact ⟨rfl, HE.out.2.2.2⟩
theorem scans_law' (seq : Int) (h0 : (Lit.int .u64 seq).wf = true) (xs : List ByteArray) (A : Option Addr) (cap : Nat) (odd : Int) (more : ByteArray) (stop : Int) (w : World) (hx : ReadsOf Value.string ByteArray.empty w A xs.length xs) :
    Calls Try.prog 10 #[.int .u64 seq, .slice A xs.length cap, .int .i64 odd, .string more, .int .i64 stop] w fun e w' => e = .returned (.bool true) ∧ Below w.heap.size w w' := by
  have e3 : IntKind.u64.min = 0 := by decide
  have e4 : IntKind.u64.max = 18446744073709551615 := by decide
  simp only [Lit.wf, e3, e4, Bool.and_eq_true, decide_eq_true_eq] at h0
  obtain ⟨m, rfl⟩ := Int.eq_ofNat_of_zero_le h0.1
  exact scans_law m (by omega) xs A cap odd more stop w hx
end Go.Proofs.Ythlllcmffgdcmaa.Scans

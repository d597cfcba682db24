/- A log torn in one segment: what is read of it is what stands ahead, no more. -/
import Derived.Test.YthlllcmffgdcmaaM7
namespace Go.Proofs.Ythlllcmffgdcmaa.Book
open Go.RowKit Go.Proofs.YthlllcmffgdcmaaW.PrintWords Go.Proofs.YthlllcmffgdcmaaW.PrintLast Go.Proofs.YthlllcmffgdcmaaW.PrintMore Go.Proofs.Ythlllcmffgdcmaa.Stores Go.Proofs.Ythlllcmffgdcmaa.LebPlain Go.Proofs.Ythlllcmffgdcmaa.LebWords Go.Proofs.Ythlllcmffgdcmaa.RecPlain Go.Proofs.Ythlllcmffgdcmaa.SegPlain Go.Proofs.Ythlllcmffgdcmaa.SegLinkQSegmentOpens
open Go.Proofs.Ythlllcmffgdcmaa.PRecordReads (S31 k31 S36 k36)
open Go.Proofs.Ythlllcmffgdcmaa.RecRecordReads (recP)
open Go.Proofs.Ythlllcmffgdcmaa.BookSome (recQ)
attribute [local go_sem] max2_int min2_int max_two min_two
set_option linter.unusedVariables false
set_option linter.unusedSimpArgs false

theorem count_up' (k n : Nat) (h : k < n) : n - (intOf (Value.int .i64 ((k + 1 : Nat) : Int))).toNat < n - (intOf (Value.int .i64 (k : Int))).toNat := by
  show n - (k + 1) < n - k
  omega
theorem size_of (x : Int) : ∃ m : Nat, wrap64 (1 + (Go.bits .and .i64 x 255).tmod 6) = (m : Int) ∧ 1 ≤ m ∧ m ≤ 6 ∧ most (m : Int) = (m : Int) := by
  have h1 := i64_and255 x
  have h2 : 0 ≤ x % 256 := by omega
  have h3 := Int.tmod_eq_emod_of_nonneg (b := 6) h2
  refine ⟨(1 + x % 256 % 6).toNat, ?_, by omega, by omega, ?_⟩
  · rw [h1, h3]
    unfold wrap64
    omega
  · unfold most
    split <;> split <;> omega
/-- What stands while the log is written. -/
structure Grows (B g gb N : Nat) (m : Nat) (ms : List Nat) (w0 w : World) (vr vw ve : Value) (k : Nat) (gs : List (List Nat)) (ws : List Nat) : Prop where
  bo : Bo True 1048576 B w0 w gb g (m : Int) vw gs ws
  flat : gs.flatten ++ ws = ms.take k
  row : Own w B vr ms
  apart : Apart vr vw
  ends : OwnE w B ve gs
  all : k < N → ∀ x ∈ gs, x.length = m
  last : k = N → Full m gs ∧ ws = []

theorem grow_last (m : Nat) (gs : List (List Nat)) (ws : List Nat) (r : Nat) : fluG (addG (m : Int) gs ws r) (addW (m : Int) ws r) = gs ++ [ws ++ [r]] := by
  unfold addG addW
  split
  · unfold fluG
    rw [if_neg (by simp)]
  · unfold fluG
    rw [if_pos (by simp)]
theorem full_last (m : Nat) (gs : List (List Nat)) (ws : List Nat) (r : Nat) (hm : 1 ≤ m) (hw : ws.length < m) (h : ∀ x ∈ gs, x.length = m) : Full m (gs ++ [ws ++ [r]]) := by
  rcases Nat.lt_or_ge (ws.length + 1) m with h1 | h1
  · have := full_flu m hm (ws ++ [r]) (by simp; omega) gs h
    unfold fluG at this
    rwa [if_neg (by simp)] at this
  · have := full_flu m hm [] (by simp; omega) (gs ++ [ws ++ [r]]) (fun x hx => by
      rcases List.mem_append.1 hx with hx | hx
      · exact h x hx
      · rw [List.mem_singleton.1 hx, List.length_append]; simp; omega)
    unfold fluG at this
    rwa [if_pos (by simp)] at this
theorem add_tot (m : Nat) (gs : List (List Nat)) (ws : List Nat) (r : Nat) : tot (addG (m : Int) gs ws r) (addW (m : Int) ws r) = gs.flatten.length + ws.length + 1 := by
  have h := congrArg List.length (add_flat (m : Int) gs ws r)
  simp only [List.length_append, List.length_singleton] at h
  unfold tot
  exact h

set_option maxHeartbeats 4000000 in
set_option maxRecDepth 100000 in
theorem torn_law (A : Option Addr) (c : Nat) (l : List S36) (x which bit : Int) (v : Nat) (hv : v < 4294967296) (w : World) (hK : Kd.C k36 w A l.length l) (hc : l.length ≤ c) :
    Calls Try.prog 14 #[.slice A l.length c, .int .i64 x, .int .i64 which, .int .i64 bit, .int .u32 (v : Int)] w fun e w' => e = .returned (.bool true) ∧ Below w.heap.size w w' := by
  have HSM := Aside0.mk (some_calls w A c l hK hc)
  have HV := Aside0.mk hv
  obtain ⟨m, hmx, hm1, hm6, hmo⟩ := size_of x
  have HMM := Aside0.mk (And.intro hm1 (And.intro hm6 hmo))
  have HMX := Aside0.mk hmx
  clear hK hc hv hm1 hm6 hmo hmx
  generalize l.length = N0 at *
  go_enter Try.func14, Try.ntmps14
  go_upto_region 2 with (go_at_call 16; (with_reducible refine HSM.out.mono ?_); rintro e w1 ⟨v1, ms, rfl, hm, hml, hmc, hb⟩; have HM := Aside0.mk hm; have HML := Aside0.mk (And.intro hml hmc); have HB1 := Aside0.mk hb; clear hm hml hmc hb)
  obtain ⟨Am, cm, hvm⟩ := HM.out.slice
  subst hvm
  obtain ⟨N, hN⟩ : ∃ N, ms.length = N := ⟨_, rfl⟩
  have hml := HML.out.1
  have HMC := Aside0.mk HML.out.2
  have hm := HM.out
  rw [hN] at hml hm ⊢
  have HM1 := Aside0.mk hm
  have HN := Aside0.mk (And.intro hN hml)
  clear HM HML hm
  clear hml hN
  by_cases h0 : N = 0
  · have q0 : ((N : Int) == 0) = true := beq_iff_eq.2 (by omega)
    have q1 : (N = 0) = True := eq_true h0
    have q2 : ((N : Int) = 0) = True := eq_true (by omega)
    clear h0
    go_wp2_with (first
      | (go_at_call 51; (with_reducible refine (live_calls w1).mono ?_); rintro e w2 ⟨rfl, hb⟩; have HB2 := Aside0.mk (below_then HB1.out HB1.out.size hb); clear hb)
      | (go_at_call 51; (with_reducible refine (live_calls w2).mono ?_); rintro e w3 ⟨rfl, hb⟩; have HB3 := Aside0.mk (below_then HB2.out HB2.out.size hb); clear hb))
    go_ret
    exact ⟨rfl, HB3.out⟩
  have q0 : ((N : Int) == 0) = false := beq_eq_false_iff_ne.2 (by omega)
  have q1 : (N = 0) = False := eq_false h0
  have q2 : ((N : Int) = 0) = False := eq_false (by omega)
  by_cases hv0 : v = 0
  · have q3 : ((v : Int) == 0) = true := beq_iff_eq.2 (by omega)
    have q4 : (v = 0) = True := eq_true hv0
    have q5 : ((v : Int) = 0) = True := eq_true (by omega)
    clear h0 hv0
    go_wp2_with (first
      | (go_at_call 51; (with_reducible refine (live_calls w1).mono ?_); rintro e w2 ⟨rfl, hb⟩; have HB2 := Aside0.mk (below_then HB1.out HB1.out.size hb); clear hb)
      | (go_at_call 51; (with_reducible refine (live_calls w2).mono ?_); rintro e w3 ⟨rfl, hb⟩; have HB3 := Aside0.mk (below_then HB2.out HB2.out.size hb); clear hb))
    go_ret
    exact ⟨rfl, HB3.out⟩
  have q3 : ((v : Int) == 0) = false := beq_eq_false_iff_ne.2 (by omega)
  have q4 : (v = 0) = False := eq_false hv0
  have q5 : ((v : Int) = 0) = False := eq_false (by omega)
  have HV0 := Aside0.mk (And.intro h0 hv0)
  have hmx := HMX.out
  clear h0 hv0
  go_upto_region 7 with (first
    | (go_at_call 51; (with_reducible refine (live_calls w1).mono ?_); rintro e w2 ⟨rfl, hb⟩; have HB2 := Aside0.mk (below_then HB1.out HB1.out.size hb); have HM2 := Aside0.mk (HM1.out.below hb); clear hb)
    | (go_at_call 39; (with_reducible refine (new_calls w.heap.size 1048576 (by omega) w2 HB2.out.size).mono ?_); rintro e w3 ⟨g, rfl, hs, hb⟩; have HS3 := Aside0.mk (show Sto 1048576 w.heap.size w3 g [] 0 from hs); have HB3 := Aside0.mk (below_then HB2.out HB2.out.size hb); have HM3 := Aside0.mk (HM2.out.below hb); clear hs hb)
    | (go_at_call 40; (with_reducible refine (open_fresh (m : Int) w3 HS3.out HB3.out).mono ?_); rintro e w4 ⟨gb, A6, c6, rfl, hbo, ht, hsz⟩; have HBO := Aside0.mk hbo; have HM4 := Aside0.mk (HM3.out.tm ht); clear hbo ht hsz))
  clear hmx
  generalize Go.bits .and .i64 x 255 = b255
  have hbo0 := HBO.out
  rw [HMM.out.2.2] at hbo0
  have HBO0 := Aside0.mk hbo0
  clear HBO hbo0 HS3 HB3 HM1 HM2 HM3 HB2
  go_upto_block 0 with (fail)
  have HE5 := Aside0.mk (OwnE.first w4 w.heap.size HBO0.out.below.size)
  have HBO5 := Aside0.mk (HBO0.out.on (below_alloc (Below.refl _ _) (.cells #[.int .i64 0] 3)))
  have HM5 := Aside0.mk (HM4.out.below (below_alloc (Below.refl _ _) (.cells #[.int .i64 0] 3)))
  clear HBO0 HM4
  generalize w4.heap.size = z4 at HE5 ⊢
  change Code.wp _ _ _ _ (w4.alloc (.cells #[.int .i64 0] 3))
  generalize w4.alloc (.cells #[.int .i64 0] 3) = w5 at HE5 HBO5 HM5 ⊢
  have HG5 := Aside0.mk (show Grows w.heap.size g gb N m ms w w5 (.slice Am N cm) (.slice none 0 0) (.slice (some ⟨z4, 0, none⟩) 1 1) 0 [] [] from
    ⟨HBO5.out, by simp, HM5.out, Apart.nil _ _ _, HE5.out, (fun _ x hx => by cases hx), (fun h => absurd h.symm HV0.out.1)⟩)
  clear HE5 HBO5 HM5
  go_cut [16] (fun v16 wx => ∃ (vw : Value) (gs : List (List Nat)), Grows w.heap.size g gb N m ms w wx (.slice Am N cm) vw v16 N gs [])
  case first =>
    go_wp2
    go_loopw [16, 66] (fun v16 v66 wr => ∃ (k : Nat) (vw : Value) (gs : List (List Nat)) (ws : List Nat), k ≤ N ∧ v66 = .int .i64 k ∧ Grows w.heap.size g gb N m ms w wr (.slice Am N cm) vw v16 k gs ws) (fun _ x _ => 40 - (intOf x).toNat)
    case atStart => exact ⟨0, _, _, _, Nat.zero_le _, rfl, HG5.out⟩
    case round =>
      clear HG5
      obtain ⟨k, vw, gs, ws, hk, rfl, hgr⟩ := hrel
      obtain ⟨Ae, ce, hve⟩ := own_slice hgr.ends
      subst hve
      have hgl : gs.length ≤ 40 := by
        have h1 := many_le gs fun y hy => (hgr.bo.good y hy).1
        have h2 := congrArg List.length hgr.flat
        rw [List.length_append, List.length_take] at h2
        have := HN.out
        omega
      obtain ⟨q, hq⟩ : ∃ q, gs.length = q := ⟨_, rfl⟩
      obtain ⟨ge, hAe, _, hce, hcells⟩ := hgr.ends.at_
      subst hAe
      have HQ := Aside0.mk (And.intro hq (show q ≤ 40 by omega))
      have HCE := Aside0.mk hce
      have HG := Aside0.mk hgr
      rw [hq]
      clear hgr hgl hq hce hcells
      by_cases hlt : k < N
      case neg =>
        have q6 : decide ((k : Int) < (N : Int)) = false := decide_eq_false (by omega)
        obtain rfl : k = N := by omega
        obtain rfl : ws = [] := (HG.out.last rfl).2
        go_wp2
        go_meet
        exact ⟨vw, gs, HQ.out.1 ▸ HG.out⟩
      case pos =>
        have q6 : decide ((k : Int) < (N : Int)) = true := decide_eq_true (by omega)
        have hkm : k < ms.length := by rw [HN.out.1]; exact hlt
        obtain ⟨gr, cr, hgr, _⟩ := HG.out.row.news (by omega)
        injection hgr with hgr el ec
        subst hgr
        clear el ec
        obtain ⟨m0, m1⟩ := HG.out.row.at_ hkm
        have hr : ms[k] < 18446744073709551616 := HMC.out _ (List.getElem_mem hkm)
        have htk : ms.take (k + 1) = ms.take k ++ [ms[k]] := List.take_succ_eq_append_getElem hkm
        obtain ⟨r, hrr⟩ : ∃ r, ms[k] = r := ⟨_, rfl⟩
        rw [hrr] at m0 m1 hr htk
        have hw0 := below_alloc (Below.refl wr.heap.size wr) (.cells #[.int .i64 ((r % 4 + 1 : Nat) : Int), .int .u64 ((r / 4 : Nat) : Int)] 31)
        have htt : gs.flatten.length + ws.length = k := by rw [← List.length_append, HG.out.flat, List.length_take]; omega
        have hN40 := HN.out.2
        have had := add_bo r (HG.out.bo.on hw0) hr (by unfold tot; omega) (by unfold tot; omega) (by omega)
        obtain ⟨kd, hkd⟩ : ∃ kd : Int, ((r % 4 + 1 : Nat) : Int) = kd := ⟨_, rfl⟩
        obtain ⟨nm, hnm⟩ : ∃ nm : Int, ((r / 4 : Nat) : Int) = nm := ⟨_, rfl⟩
        rw [hkd] at m0 hw0 had
        rw [hnm] at m1 hw0 had
        have HTK := Aside0.mk htk
        have HAD := Aside0.mk had
        have HTT := Aside0.mk htt
        have HB7 := Aside0.mk (HG.out.bo.on hw0)
        have HM7 := Aside0.mk (HG.out.row.below hw0)
        have HE7 := Aside0.mk (HG.out.ends.below hw0)
        have HAP := Aside0.mk HG.out.apart
        have b6 : (0 : Int) ≤ (k : Int) := by omega
        have b7 : (k : Int) < (N : Int) := by omega
        have HK := Aside0.mk (And.intro hlt hkm)
        clear hrr htk hkd hnm hr had hw0 htt hN40
        go_upto_region 13 with (fail)
        obtain ⟨zb, hzb⟩ : ∃ zb, wr.heap.size = zb := ⟨_, rfl⟩
        have HZ7 := Aside0.mk (show (wr.alloc (.cells #[.int .i64 kd, .int .u64 nm] 31)).heap[zb]? = some (.cells #[.int .i64 kd, .int .u64 nm] 31 (0, 0)) by rw [← hzb]; exact blk_new wr _)
        rw [hzb]
        clear hzb m0 m1
        change Code.wp _ _ _ _ (wr.alloc (.cells #[.int .i64 kd, .int .u64 nm] 31))
        generalize wr.alloc (.cells #[.int .i64 kd, .int .u64 nm] 31) = w7 at HAD HB7 HM7 HE7 HZ7 ⊢
        have z0 : w7.cell? ⟨zb, 0, none⟩ = some (.int .i64 kd) := (blk_cell HZ7.out 0).trans rfl
        have z1 : w7.cell? ⟨zb, 1, none⟩ = some (.int .u64 nm) := (blk_cell HZ7.out 1).trans rfl
        clear HZ7
        obtain ⟨nl, hnl, hnl2⟩ : ∃ nl : Int, wrap64 ((N : Int) - 1) = nl ∧ nl = (N : Int) - 1 := ⟨(N : Int) - 1, by have := HN.out.2; unfold wrap64; omega, rfl⟩
        have HNL := Aside0.mk hnl2
        by_cases hlast : k + 1 = N
        · have q7 : ((k : Int) == nl) = true := beq_iff_eq.2 (by rw [hnl2]; clear hnl; omega)
          have q8 : ((k : Int) = nl) = True := eq_true (by rw [hnl2]; clear hnl; omega)
          have HLA := Aside0.mk hlast
          clear hnl2 hlast
          go_upto_region 15 with (first
            | (go_at_call 43; (with_reducible refine HAD.out.mono ?_); rintro e w8 ⟨rfl, vw8, hl⟩; have HL := Aside0.mk hl; have HM8 := Aside0.mk (HM7.out.fr hl.fr HB7.out.bk.blk HAP.out); have HAP8 := Aside0.mk (HAP.out.moved HM7.out hl.moved); have HE8 := Aside0.mk (HE7.out.fr hl.fr HB7.out.bk.blk HB7.out.bk.row); clear hl z0 z1)
            | (go_at_call 44; (with_reducible refine (flush_bo HL.out.bo (by rw [add_tot, HTT.out]; have := HN.out.2; have := HK.out.1; clear hnl; omega) (by rw [add_tot, HTT.out]; have := HN.out.2; have := HK.out.1; clear hnl; omega) (by clear hnl; omega) (by have h1 := HL.out.bo.room; have h2 := HL.out.bo.m400; clear hnl; omega)).mono ?_); rintro e w9 ⟨rfl, vw9, hl⟩; have HL9 := Aside0.mk hl; have HM9 := Aside0.mk (HM8.out.fr hl.fr HL.out.bo.bk.blk HAP8.out); have HAP9 := Aside0.mk (HAP8.out.moved HM8.out hl.moved); have HE9 := Aside0.mk (HE8.out.fr hl.fr HL.out.bo.bk.blk HL.out.bo.bk.row); clear hl))
          have hbo9 := HL9.out.bo
          rw [grow_last] at hbo9
          obtain ⟨G, hG⟩ : ∃ G, gs ++ [ws ++ [r]] = G := ⟨_, rfl⟩
          rw [hG] at hbo9
          obtain ⟨Ln, hLn⟩ : ∃ n, (logF 0 G).length = n := ⟨_, rfl⟩
          obtain ⟨E0, hE0⟩ : ∃ n, logE gs q = n := ⟨_, rfl⟩
          have hgrow : E0 < Ln := by
            rw [← hLn, ← hE0, ← hG, logF_snoc, List.length_append, ← HQ.out.1, logE_all]
            have h1 := frameL_len gs.length (rowB (ws ++ [r]))
            omega
          have ec : w9.cell? ⟨ge, q, none⟩ = some (.int .i64 (E0 : Int)) := by
            obtain ⟨ge', e1, _, _, h4⟩ := HE9.out.at_
            injection e1 with e1
            injection e1 with e1
            subst e1
            rw [← hE0]
            exact h4 q (by rw [HQ.out.1]; exact Nat.le_refl _)
          obtain ⟨safe, hst, _⟩ := hbo9.sto
          have hlq : ∀ n, Calls Try.prog 48 #[.pointer (some ⟨g, 0, none⟩)] (w9.drewN n) fun e w' => e = .returned (.int .i64 (Ln : Int)) ∧ w' = w9.drewN n := fun n => by
            have h := len_c w.heap.size g _ safe (w9.drewN n) (show Sto 1048576 w.heap.size (w9.drewN n) g ((logF 0 G).map Int.ofNat) safe from hst)
            rw [List.length_map, hLn] at h
            exact h.mono fun e w' ⟨h1, h2⟩ => ⟨h1, h2.symm⟩
          have HLQ := Aside0.mk hlq
          have HBO9 := Aside0.mk hbo9
          have HGG := Aside0.mk (And.intro hG (And.intro hLn hgrow))
          have q9 : decide ((E0 : Int) < (Ln : Int)) = true := decide_eq_true (by clear hnl; omega)
          have q10 : (E0 < Ln) = True := eq_true hgrow
          have b8 : (0 : Int) ≤ (q : Int) := by clear hnl; omega
          have hqw : wrap64 ((q : Int) + 1 - 1) = (q : Int) := by have := HQ.out.2; clear hnl; unfold wrap64; omega
          have hq40 := HQ.out.2
          clear hbo9 hG hLn hE0 hst hlq hgrow
          go_quiet ((go_at_call 48; exact Calls.quiet_of_same (HLQ.out _)))
          have HBQ := Aside0.mk (HBO9.out.on (pw_below_drewN (Below.refl w9.heap.size w9) nq))
          have HMQ := Aside0.mk (HM9.out.below (pw_below_drewN (Below.refl w9.heap.size w9) nq))
          have HEQ := Aside0.mk (HE9.out.below (pw_below_drewN (Below.refl w9.heap.size w9) nq))
          have HLC := Aside0.mk ((HLQ.out nq).mono fun e w' ⟨h1, h2⟩ => (show _ ∧ w9.drewN nq = w' from ⟨h1, h2.symm⟩))
          generalize w9.drewN nq = wq at HBQ HMQ HEQ HLC ⊢
          obtain ⟨j0, hj0, hz0, hz1, hz2⟩ := info_parts info3
          have HJ := Aside0.mk (And.intro hj0 (And.intro hz0 (And.intro hz1 hz2)))
          have HEQ' := Aside0.mk (show wq.ownsRow w.heap.size 3 1 (.slice (some ⟨ge, 0, none⟩) (q + 1) ce) (q + 1) (endsV gs) by have h := HEQ.out; unfold OwnE at h; rw [HQ.out.1] at h; exact h)
          have HSZQ := Aside0.mk HBQ.out.below.size
          have HKW := Aside0.mk (show wrap64 ((k : Int) + 1) = ((k + 1 : Nat) : Int) by have h1 := HN.out.2; have h2 := HK.out.1; clear hnl hqw; unfold wrap64; omega)
          have HME := Aside0.mk (count_up' k 40 (by have h1 := HN.out.2; have h2 := HK.out.1; clear hnl hqw; omega))
          clear hj0 hz0 hz1 hz2 ec HLQ HBO9 HM9 HE9 hnl hqw
          go_wp2_with (first
            | (go_at_call 48; (with_reducible refine HLC.out.mono ?_); rintro e w' ⟨rfl, rfl⟩)
            | (at_builtin; refine wpList_append_lies _ (by rfl) _ _ 65 (by rfl) w.heap.size 3 j0 _ 1 8 Try.underlying65 HJ.out.1 HJ.out.2.1 HJ.out.2.2.1 HJ.out.2.2.2 rfl (by omega) (.slice (some ⟨ge, 0, none⟩) (q + 1) ce) (q + 1) (endsV gs) (by rfl) (HEQ'.out.alloc _) ⟨wq.heap.size, 0, none⟩ 1 1 [.int .i64 (Ln : Int)] (by rfl) (by rfl) (World.news_of_block (cs := #[.int .i64 (Ln : Int)]) (t := 3) (fr := (0, 0)) (heap_alloc_new wq _)) (by simp [Value.oneCell']) (by omega) (by unfold maxLen; omega) (by omega) (Nat.le_trans HSZQ.out (by simp)) (wq.heap.size + 1) (by simp) ?_; intro gg cap wz hown hgrow hat hltz; have HOZ := Aside0.mk hown; have HGZ := Aside0.mk hgrow; clear hown hgrow hat hltz))
          have hbz := (HBQ.out.on (below_alloc (Below.refl _ _) (.cells #[.int .i64 (Ln : Int)] 3))).grownE (HEQ.out.below (below_alloc (Below.refl _ _) (.cells #[.int .i64 (Ln : Int)] 3))) (Nat.le_refl _) HGZ.out
          have hmz : Own wz w.heap.size (.slice (some ⟨gr, 0, none⟩) N cm) ms := own_grown_other (HMQ.out.below (below_alloc (Below.refl _ _) (.cells #[.int .i64 (Ln : Int)] 3))) (HEQ.out.below (below_alloc (Below.refl _ _) (.cells #[.int .i64 (Ln : Int)] 3))) (by decide) HGZ.out
          have hez : OwnE wz w.heap.size (.slice (some ⟨gg, 0, none⟩) (q + 1 + 1) cap) G := by
            have h := HOZ.out
            unfold OwnE
            rw [← HGG.out.1, endsV_snoc, HGG.out.1, HGG.out.2.1, ← HGG.out.1, List.length_append, List.length_singleton, HQ.out.1]
            exact h
          have hfz : G.flatten ++ [] = ms.take (k + 1) := by
            rw [HTK.out, ← HG.out.flat, ← HGG.out.1]
            simp
          have hlz : Full m G := by
            rw [← HGG.out.1]
            have hrm := HG.out.bo.room
            have hm1 := HMM.out.1
            exact full_last m gs ws r hm1 (by omega) (HG.out.all HK.out.1)
          have hgz : Grows w.heap.size g gb N m ms w wz (.slice (some ⟨gr, 0, none⟩) N cm) vw9 (.slice (some ⟨gg, 0, none⟩) (q + 1 + 1) cap) (k + 1) G [] :=
            ⟨hbz, hfz, hmz, HAP9.out, hez, (fun h => by have := HLA.out; omega), fun _ => ⟨hlz, rfl⟩⟩
          have HGZZ := Aside0.mk hgz
          clear hbz hfz hmz hez hlz hgz
          refine ⟨⟨k + 1, vw9, G, [], HK.out.1, by first | (with_reducible exact congrArg (Value.int .i64) HKW.out) | rfl, HGZZ.out⟩, by first | (with_reducible exact HME.out) | exact HME.out | (rw [HKW.out]; exact HME.out)⟩
        · have q7 : ((k : Int) == nl) = false := beq_eq_false_iff_ne.2 (by rw [hnl2]; clear hnl; omega)
          have q8 : ((k : Int) = nl) = False := eq_false (by rw [hnl2]; clear hnl; omega)
          have HLA := Aside0.mk hlast
          clear hnl2 hlast
          go_upto_region 15 with (first
            | (go_at_call 43; (with_reducible refine HAD.out.mono ?_); rintro e w8 ⟨rfl, vw8, hl⟩; have HL := Aside0.mk hl; have HM8 := Aside0.mk (HM7.out.fr hl.fr HB7.out.bk.blk HAP.out); have HAP8 := Aside0.mk (HAP.out.moved HM7.out hl.moved); have HE8 := Aside0.mk (HE7.out.fr hl.fr HB7.out.bk.blk HB7.out.bk.row); clear hl z0 z1))
          have hbo9 := HL.out.bo
          by_cases hfull : ws.length + 1 = m
          · have ea : addG (m : Int) gs ws r = gs ++ [ws ++ [r]] := if_neg (by clear hnl; omega)
            have eb : addW (m : Int) ws r = [] := if_neg (by clear hnl; omega)
            rw [ea, eb] at hbo9
            have HFUL := Aside0.mk hfull
            clear ea eb hfull
            obtain ⟨G, hG⟩ : ∃ G, gs ++ [ws ++ [r]] = G := ⟨_, rfl⟩
            rw [hG] at hbo9
            obtain ⟨Ln, hLn⟩ : ∃ n, (logF 0 G).length = n := ⟨_, rfl⟩
            obtain ⟨E0, hE0⟩ : ∃ n, logE gs q = n := ⟨_, rfl⟩
            have hgrow : E0 < Ln := by
              rw [← hLn, ← hE0, ← hG, logF_snoc, List.length_append, ← HQ.out.1, logE_all]
              have h1 := frameL_len gs.length (rowB (ws ++ [r]))
              omega
            have ec : w8.cell? ⟨ge, q, none⟩ = some (.int .i64 (E0 : Int)) := by
              obtain ⟨ge', e1, _, _, h4⟩ := HE8.out.at_
              injection e1 with e1
              injection e1 with e1
              subst e1
              rw [← hE0]
              exact h4 q (by rw [HQ.out.1]; exact Nat.le_refl _)
            obtain ⟨safe, hst, _⟩ := hbo9.sto
            have hlq : ∀ n, Calls Try.prog 48 #[.pointer (some ⟨g, 0, none⟩)] (w8.drewN n) fun e w' => e = .returned (.int .i64 (Ln : Int)) ∧ w' = w8.drewN n := fun n => by
              have h := len_c w.heap.size g _ safe (w8.drewN n) (show Sto 1048576 w.heap.size (w8.drewN n) g ((logF 0 G).map Int.ofNat) safe from hst)
              rw [List.length_map, hLn] at h
              exact h.mono fun e w' ⟨h1, h2⟩ => ⟨h1, h2.symm⟩
            have HLQ := Aside0.mk hlq
            have HBO9 := Aside0.mk hbo9
            have HGG := Aside0.mk (And.intro hG (And.intro hLn hgrow))
            have q9 : decide ((E0 : Int) < (Ln : Int)) = true := decide_eq_true (by clear hnl; omega)
            have q10 : (E0 < Ln) = True := eq_true hgrow
            have b8 : (0 : Int) ≤ (q : Int) := by clear hnl; omega
            have hqw : wrap64 ((q : Int) + 1 - 1) = (q : Int) := by have := HQ.out.2; clear hnl; unfold wrap64; omega
            have hq40 := HQ.out.2
            clear hbo9 hG hLn hE0 hst hlq hgrow
            go_quiet ((go_at_call 48; exact Calls.quiet_of_same (HLQ.out _)))
            have HBQ := Aside0.mk (HBO9.out.on (pw_below_drewN (Below.refl w8.heap.size w8) nq))
            have HMQ := Aside0.mk (HM8.out.below (pw_below_drewN (Below.refl w8.heap.size w8) nq))
            have HEQ := Aside0.mk (HE8.out.below (pw_below_drewN (Below.refl w8.heap.size w8) nq))
            have HLC := Aside0.mk ((HLQ.out nq).mono fun e w' ⟨h1, h2⟩ => (show _ ∧ w8.drewN nq = w' from ⟨h1, h2.symm⟩))
            generalize w8.drewN nq = wq at HBQ HMQ HEQ HLC ⊢
            obtain ⟨j0, hj0, hz0, hz1, hz2⟩ := info_parts info3
            have HJ := Aside0.mk (And.intro hj0 (And.intro hz0 (And.intro hz1 hz2)))
            have HEQ' := Aside0.mk (show wq.ownsRow w.heap.size 3 1 (.slice (some ⟨ge, 0, none⟩) (q + 1) ce) (q + 1) (endsV gs) by have h := HEQ.out; unfold OwnE at h; rw [HQ.out.1] at h; exact h)
            have HSZQ := Aside0.mk HBQ.out.below.size
            have HKW := Aside0.mk (show wrap64 ((k : Int) + 1) = ((k + 1 : Nat) : Int) by have h1 := HN.out.2; have h2 := HK.out.1; clear hnl hqw; unfold wrap64; omega)
            have HME := Aside0.mk (count_up' k 40 (by have h1 := HN.out.2; have h2 := HK.out.1; clear hnl hqw; omega))
            clear hj0 hz0 hz1 hz2 ec HLQ HBO9 HM8 HE8 hnl hqw
            go_wp2_with (first
              | (go_at_call 48; (with_reducible refine HLC.out.mono ?_); rintro e w' ⟨rfl, rfl⟩)
              | (at_builtin; refine wpList_append_lies _ (by rfl) _ _ 65 (by rfl) w.heap.size 3 j0 _ 1 8 Try.underlying65 HJ.out.1 HJ.out.2.1 HJ.out.2.2.1 HJ.out.2.2.2 rfl (by omega) (.slice (some ⟨ge, 0, none⟩) (q + 1) ce) (q + 1) (endsV gs) (by rfl) (HEQ'.out.alloc _) ⟨wq.heap.size, 0, none⟩ 1 1 [.int .i64 (Ln : Int)] (by rfl) (by rfl) (World.news_of_block (cs := #[.int .i64 (Ln : Int)]) (t := 3) (fr := (0, 0)) (heap_alloc_new wq _)) (by simp [Value.oneCell']) (by omega) (by unfold maxLen; omega) (by omega) (Nat.le_trans HSZQ.out (by simp)) (wq.heap.size + 1) (by simp) ?_; intro gg cap wz hown hgrow hat hltz; have HOZ := Aside0.mk hown; have HGZ := Aside0.mk hgrow; clear hown hgrow hat hltz))
            have hbz := (HBQ.out.on (below_alloc (Below.refl _ _) (.cells #[.int .i64 (Ln : Int)] 3))).grownE (HEQ.out.below (below_alloc (Below.refl _ _) (.cells #[.int .i64 (Ln : Int)] 3))) (Nat.le_refl _) HGZ.out
            have hmz : Own wz w.heap.size (.slice (some ⟨gr, 0, none⟩) N cm) ms := own_grown_other (HMQ.out.below (below_alloc (Below.refl _ _) (.cells #[.int .i64 (Ln : Int)] 3))) (HEQ.out.below (below_alloc (Below.refl _ _) (.cells #[.int .i64 (Ln : Int)] 3))) (by decide) HGZ.out
            have hez : OwnE wz w.heap.size (.slice (some ⟨gg, 0, none⟩) (q + 1 + 1) cap) G := by
              have h := HOZ.out
              unfold OwnE
              rw [← HGG.out.1, endsV_snoc, HGG.out.1, HGG.out.2.1, ← HGG.out.1, List.length_append, List.length_singleton, HQ.out.1]
              exact h
            have hfz : G.flatten ++ [] = ms.take (k + 1) := by
              rw [HTK.out, ← HG.out.flat, ← HGG.out.1]
              simp
            have hlz : ∀ x ∈ G, x.length = m := by
              rw [← HGG.out.1]
              intro x hx
              rcases List.mem_append.1 hx with hx | hx
              · exact HG.out.all HK.out.1 x hx
              · rw [List.mem_singleton.1 hx, List.length_append, List.length_singleton]
                exact HFUL.out
            have hgz : Grows w.heap.size g gb N m ms w wz (.slice (some ⟨gr, 0, none⟩) N cm) vw8 (.slice (some ⟨gg, 0, none⟩) (q + 1 + 1) cap) (k + 1) G [] :=
              ⟨hbz, hfz, hmz, HAP8.out, hez, (fun _ => hlz), (fun h => absurd h HLA.out)⟩
            have HGZZ := Aside0.mk hgz
            clear hbz hfz hmz hez hlz hgz
            refine ⟨⟨k + 1, vw8, G, [], HK.out.1, by first | (with_reducible exact congrArg (Value.int .i64) HKW.out) | rfl, HGZZ.out⟩, by first | (with_reducible exact HME.out) | exact HME.out | (rw [HKW.out]; exact HME.out)⟩
          · have hrm := HG.out.bo.room
            have ea : addG (m : Int) gs ws r = gs := if_pos (by clear hnl; omega)
            have eb : addW (m : Int) ws r = ws ++ [r] := if_pos (by clear hnl; omega)
            rw [ea, eb] at hbo9
            clear ea eb hfull hrm
            obtain ⟨E0, hE0⟩ : ∃ n, logE gs q = n := ⟨_, rfl⟩
            have hLn : (logF 0 gs).length = E0 := by rw [← hE0, ← HQ.out.1, logE_all]
            have ec : w8.cell? ⟨ge, q, none⟩ = some (.int .i64 (E0 : Int)) := by
              obtain ⟨ge', e1, _, _, h4⟩ := HE8.out.at_
              injection e1 with e1
              injection e1 with e1
              subst e1
              rw [← hE0]
              exact h4 q (by rw [HQ.out.1]; exact Nat.le_refl _)
            obtain ⟨safe, hst, _⟩ := hbo9.sto
            have hlq : ∀ n, Calls Try.prog 48 #[.pointer (some ⟨g, 0, none⟩)] (w8.drewN n) fun e w' => e = .returned (.int .i64 (E0 : Int)) ∧ w' = w8.drewN n := fun n => by
              have h := len_c w.heap.size g _ safe (w8.drewN n) (show Sto 1048576 w.heap.size (w8.drewN n) g ((logF 0 gs).map Int.ofNat) safe from hst)
              rw [List.length_map, hLn] at h
              exact h.mono fun e w' ⟨h1, h2⟩ => ⟨h1, h2.symm⟩
            have HLQ := Aside0.mk hlq
            have HBO9 := Aside0.mk hbo9
            have b8 : (0 : Int) ≤ (q : Int) := by clear hnl; omega
            have hqw : wrap64 ((q : Int) + 1 - 1) = (q : Int) := by have := HQ.out.2; clear hnl; unfold wrap64; omega
            have hq40 := HQ.out.2
            clear hbo9 hLn hE0 hst hlq
            go_quiet ((go_at_call 48; exact Calls.quiet_of_same (HLQ.out _)))
            have HBQ := Aside0.mk (HBO9.out.on (pw_below_drewN (Below.refl w8.heap.size w8) nq))
            have HMQ := Aside0.mk (HM8.out.below (pw_below_drewN (Below.refl w8.heap.size w8) nq))
            have HEQ := Aside0.mk (HE8.out.below (pw_below_drewN (Below.refl w8.heap.size w8) nq))
            generalize w8.drewN nq = wq at HBQ HMQ HEQ ⊢
            have HKW := Aside0.mk (show wrap64 ((k : Int) + 1) = ((k + 1 : Nat) : Int) by have h1 := HN.out.2; have h2 := HK.out.1; clear hnl hqw; unfold wrap64; omega)
            have HME := Aside0.mk (count_up' k 40 (by have h1 := HN.out.2; have h2 := HK.out.1; clear hnl hqw; omega))
            clear ec HLQ HBO9 HM8 HE8 hnl hqw
            go_wp2
            have hgz : Grows w.heap.size g gb N m ms w wq (.slice (some ⟨gr, 0, none⟩) N cm) vw8 (.slice (some ⟨ge, 0, none⟩) (q + 1) ce) (k + 1) gs (ws ++ [r]) :=
              ⟨HBQ.out, by rw [HTK.out, ← HG.out.flat, List.append_assoc], HMQ.out, HAP8.out, HQ.out.1 ▸ HEQ.out, (fun _ => HG.out.all HK.out.1), (fun h => absurd h HLA.out)⟩
            have HGZZ := Aside0.mk hgz
            clear hgz
            refine ⟨⟨k + 1, vw8, gs, ws ++ [r], HK.out.1, by first | (with_reducible exact congrArg (Value.int .i64) HKW.out) | rfl, HGZZ.out⟩, by first | (with_reducible exact HME.out) | exact HME.out | (rw [HKW.out]; exact HME.out)⟩
  case rest =>
    clear HG5
    obtain ⟨vw, gs, hgr⟩ := hcut
    obtain ⟨Ae, ce, hve⟩ := own_slice hgr.ends
    subst hve
    obtain ⟨ge, hAe, _, hce, _⟩ := hgr.ends.at_
    subst hAe
    have hfl : gs.flatten = ms := by have := hgr.flat; rwa [List.append_nil, ← HN.out.1, List.take_length] at this
    have hgl := many_le gs fun y hy => (hgr.bo.good y hy).1
    rw [hfl, HN.out.1] at hgl
    have hN40 := HN.out.2
    obtain ⟨q, hq⟩ : ∃ q, gs.length = q := ⟨_, rfl⟩
    have hq0 : 0 < q := by
      rcases Nat.eq_zero_or_pos q with h | h
      · exfalso
        rw [List.eq_nil_of_length_eq_zero (hq.trans h)] at hfl
        exact HV0.out.1 (by rw [← HN.out.1, ← hfl]; rfl)
      · exact h
    obtain ⟨bw, hbw, hbw0⟩ : ∃ b : Int, Go.bits .and .i64 which 65535 = b ∧ 0 ≤ b := ⟨which % 65536, i64_and65535 which, by omega⟩
    obtain ⟨j, hj, hjq⟩ : ∃ j : Nat, bw.tmod (q : Int) = (j : Int) ∧ j < q := by
      have h1 := Int.tmod_nonneg (q : Int) hbw0
      have h2 := Int.tmod_lt_of_pos bw (b := (q : Int)) (by omega)
      exact ⟨(bw.tmod (q : Int)).toNat, by omega, by omega⟩
    have hqw : wrap64 ((q : Int) + 1 - 1) = (q : Int) := by clear hbw hj; unfold wrap64; omega
    have hqw2 : wrap64 (q : Int) = (q : Int) := by clear hbw hj hqw; unfold wrap64; omega
    have hqn2 : (q = 0) = False := eq_false (by clear hqw hqw2 hbw hj; omega)
    have hqn : ((q : Int) = 0) = False := eq_false (by clear hqw hqw2 hbw hj; omega)
    obtain ⟨y, hy⟩ : ∃ y, strB (logF 0 gs) = y := ⟨_, rfl⟩
    have hbly : bl y = logF 0 gs := by rw [← hy]; exact bl_strB _ (logF_lt gs 0)
    have hys : y.size ≤ 1440 := by
      have h1 := log_size gs 0 hgr.bo.good (by clear hqw hqw2 hbw hj; omega)
      rw [← bl_length, hbly]
      rw [hfl, HN.out.1] at h1
      clear hqw hqw2 hbw hj
      omega
    obtain ⟨safe, hst, _⟩ := hgr.bo.sto
    have hcv := print_bytes (P := Try.prog) 9 59 5 Try.underlying9 Try.underlying59 Try.underlying5 y
    have HFL := Aside0.mk (And.intro hfl (And.intro hq (And.intro hjq hce)))
    have HY := Aside0.mk hy
    have HBL := Aside0.mk hbly
    have HYS := Aside0.mk hys
    have HST := Aside0.mk hst
    have HGW := Aside0.mk hgr
    rw [hq]
    clear hgr hfl hgl hq0 hbw0 hjq hy hbly hst hce hN40 hq
    go_upto_region 20 with (go_at_call 47; (with_reducible refine (bytes_y _ g _ y HY.out _ _ HST.out).mono ?_); rintro e w' ⟨rfl, rfl⟩)
    have hbb := bytes_below (Below.refl wc.heap.size wc) (Nat.le_refl _) 5 y
    have HB0 := Aside0.mk (Go.Proofs.Ythlllcmffgdcmaa.Spoilt.bytes_at_new wc y)
    have HL0 := Aside0.mk (below_then HGW.out.bo.below HGW.out.bo.below.size hbb)
    have HE3 := Aside0.mk (HGW.out.ends.below hbb)
    have HM3 := Aside0.mk (HGW.out.row.below hbb)
    have HZ := Aside0.mk HGW.out.bo.below.size
    have HGP := Aside0.mk (And.intro HGW.out.bo.good (HGW.out.last rfl).1)
    have hzE : some wc.heap.size ≠ (Value.slice (some ⟨ge, 0, none⟩) (q + 1) ce).ownBlock := fun h => by
      obtain ⟨cs, hk⟩ := own_typed HGW.out.ends _ h.symm
      exact absurd (Array.getElem?_eq_some_iff.1 hk).1 (Nat.lt_irrefl _)
    have hzM : some wc.heap.size ≠ (Value.slice Am N cm).ownBlock := fun h => by
      obtain ⟨cs, hk⟩ := own_typed HGW.out.row _ h.symm
      exact absurd (Array.getElem?_eq_some_iff.1 hk).1 (Nat.lt_irrefl _)
    clear hbb HGW HST hcv hbw hj hqw hqw2
    generalize grownCap wc y.size 0 5 = cR
    generalize wc.heap.size = z at HB0 HZ hzE hzM ⊢
    generalize Lib.bytesWorld wc 5 y = w3 at HB0 HL0 HE3 HM3 ⊢
    have hjq := HFL.out.2.2.1
    have hql := HFL.out.2.1
    obtain ⟨gj, hgj⟩ : ∃ g, gs.getD j [] = g := ⟨_, rfl⟩
    have hseg := open_seg gs HGP.out.1 (by have h1 := many_le gs fun y hy => (HGP.out.1 y hy).1; rw [HFL.out.1, HN.out.1] at h1; have := HN.out.2; omega) j (by omega) y (logF (j + 1) (gs.drop (j + 1))) (by rw [HBL.out]; exact split_log gs j (by omega))
    rw [hgj] at hseg
    obtain ⟨e0, he0⟩ : ∃ e, logE gs j = e := ⟨_, rfl⟩
    obtain ⟨e1, he1⟩ : ∃ e, logE gs (j + 1) = e := ⟨_, rfl⟩
    obtain ⟨bd, hbd⟩ : ∃ b, bodyS gj = b := ⟨_, rfl⟩
    have hce3 := HE3.out.at_
    obtain ⟨ge', ee, _, _, hcells⟩ := hce3
    injection ee with ee
    injection ee with ee
    subst ee
    have x0 := hcells j (by omega)
    have x1 := hcells (j + 1) (by omega)
    rw [he0] at x0 hseg
    rw [he1] at x1 hseg
    rw [hbd] at hseg
    have HOP := Aside0.mk (open_at y (by omega) _ _ _ _ _ hseg)
    have HEE := Aside0.mk (And.intro hgj (And.intro he0 (And.intro he1 hbd)))
    have b1 : (0 : Int) ≤ (j : Int) := by omega
    have b2 : (j : Int) < (q : Int) + 1 := by omega
    have HJQ := Aside0.mk (And.intro hjq hql)
    have hcv3 : (convert 59 9 (.slice (some ⟨z, 0, none⟩) y.size cR)).run Try.prog w3 = .ok (.string y) w3 := by
      refine Go.Proofs.Ythlllcmffgdcmaa.Spoilt.conv_of (xs := (bl y).map Int.ofNat) ?_ (by rw [HBL.out, ← HY.out]; rfl)
      rw [← bl_length]
      exact HB0.out.reads (by rw [bl_length]; omega)
    have hcv4 : (convert 59 9 (.slice (some ⟨z, 0, none⟩) y.size cR)).run Try.prog w3.drew = .ok (.string y) w3.drew := by
      refine Go.Proofs.Ythlllcmffgdcmaa.Spoilt.conv_of (xs := (bl y).map Int.ofNat) ?_ (by rw [HBL.out, ← HY.out]; rfl)
      rw [← bl_length]
      exact (HB0.out.below (below_drew (Below.refl _ _))).reads (by rw [bl_length]; omega)
    clear hjq hql hgj hseg he0 he1 hbd hcells
    go_cut [21, 23] (fun v21 v23 wx => v21 = .string bd ∧ v23 = .int .i64 0 ∧ Below w.heap.size w wx ∧ Go.Proofs.Ythlllcmffgdcmaa.Spoilt.BytesAt wx z (bl y) ∧ OwnE wx w.heap.size (.slice (some ⟨ge, 0, none⟩) (q + 1) ce) gs ∧ Own wx w.heap.size (.slice Am N cm) ms)
    case first =>
      go_region_law (go_simp; go_at_call 31; (with_reducible refine (HOP.out _).mono ?_); rintro e w4 ⟨rfl, hb⟩; have HB4 := Aside0.mk (below_then HL0.out.drew HL0.out.drew.size hb); have HBT := Aside0.mk ((HB0.out.below (below_drew (Below.refl _ _))).below hb); have HE4 := Aside0.mk ((HE3.out.below (below_drew (Below.refl _ _))).below hb); have HM4 := Aside0.mk ((HM3.out.below (below_drew (Below.refl _ _))).below hb); clear hb)
      all_goals
        go_wp2
        go_meet
        exact ⟨rfl, rfl, HB4.out, HBT.out, HJQ.out.2 ▸ HE4.out, HM4.out⟩
    case rest =>
      obtain ⟨rfl, rfl, hb, hbt, he, hm⟩ := hcut
      obtain ⟨ge', ee, -, -, hcells⟩ := he.at_
      injection ee with ee
      injection ee with ee
      subst ee
      have hq40 : q ≤ 40 := by
        have h1 := many_le gs fun y hy => (HGP.out.1 y hy).1
        rw [HFL.out.1, HN.out.1, HJQ.out.2] at h1
        exact Nat.le_trans h1 HN.out.2
      have y1 := hcells (j + 1) (by rw [HJQ.out.2]; exact HJQ.out.1)
      rw [HEE.out.2.2.1] at y1
      obtain ⟨j1, hj1⟩ : ∃ n, j + 1 = n := ⟨_, rfl⟩
      have y2 := y1
      rw [hj1] at y1
      have hj1q : j1 ≤ q := by rw [← hj1]; exact HJQ.out.1
      have hgm := HGP.out.1 _ (getD_mem gs j (by rw [HJQ.out.2]; exact HJQ.out.1))
      rw [HEE.out.1] at hgm
      have hnb : bd.size = (rowB gj).length := by rw [← bl_length, ← HEE.out.2.2.2, bl_bodyS]
      have hlr := len_rowB gj
      have hfz := frame_size j (by have := HJQ.out.1; omega) gj hgm.2.1 hgm.2.2
      have hpos : 0 < bd.size := by omega
      have hts : bd.size ≤ 4096 := by omega
      have hta := torn_at gs j (by rw [HJQ.out.2]; exact HJQ.out.1)
      rw [HEE.out.1, HEE.out.2.2.1, ← hnb] at hta
      obtain ⟨fB, hfB⟩ : ∃ n, bodyAt gs j = n := ⟨_, rfl⟩
      rw [hfB] at hta
      have e4 : (e1 : Int) - 4 - (bd.size : Int) = (fB : Int) := by omega
      have he1 : e1 ≤ 1440 := by
        have h1 := logE_le gs (j + 1)
        rw [HEE.out.2.2.1, ← HBL.out, bl_length] at h1
        exact Nat.le_trans h1 HYS.out
      have hfB2 : fB + bd.size ≤ 1440 := by omega
      have HFB := Aside0.mk (And.intro hfB hnb)
      have HBT := Aside0.mk hbt
      have HEW := Aside0.mk he
      have HMW := Aside0.mk hm
      have HBW := Aside0.mk hb
      obtain ⟨r1, hr1, hr1a, hr1b⟩ : ∃ r1 : Int, bit.tmod (8 * (bd.size : Int)) = r1 ∧ -(8 * (bd.size : Int)) < r1 ∧ r1 < 8 * (bd.size : Int) := by
        refine ⟨_, rfl, ?_, ?_⟩
        · exact Int.lt_tmod_of_pos bit (by omega)
        · exact Int.tmod_lt_of_pos bit (by omega)
      obtain ⟨b, hb', hbl⟩ : ∃ b : Nat, (r1 + 8 * (bd.size : Int)).tmod (8 * (bd.size : Int)) = (b : Int) ∧ b < 8 * bd.size := by
        have h1 := Int.tmod_nonneg (8 * (bd.size : Int)) (a := r1 + 8 * (bd.size : Int)) (by omega)
        have h2 := Int.tmod_lt_of_pos (r1 + 8 * (bd.size : Int)) (b := 8 * (bd.size : Int)) (by omega)
        exact ⟨((r1 + 8 * (bd.size : Int)).tmod (8 * (bd.size : Int))).toNat, by omega, by omega⟩
      have hb2 : (r1 + 8 * (bd.size : Int)) % (8 * (bd.size : Int)) = (b : Int) := by rw [← hb', Int.tmod_eq_emod_of_nonneg (by omega)]
      have hcv5 : (convert 59 9 (.slice (some ⟨z, 0, none⟩) y.size cR)).run Try.prog wc = .ok (.string y) wc := by
        refine Go.Proofs.Ythlllcmffgdcmaa.Spoilt.conv_of (xs := (bl y).map Int.ofNat) ?_ (by rw [HBL.out, ← HY.out]; rfl)
        rw [← bl_length]
        exact hbt.reads (by rw [bl_length]; have := HYS.out; omega)
      have b5 : (0 : Int) ≤ (j1 : Int) := by omega
      have b6 : (j1 : Int) < (q : Int) + 1 := by omega
      have b7 : (0 : Int) ≤ (j : Int) + 1 := by omega
      have b8 : (j : Int) + 1 < (q : Int) + 1 := by omega
      have b9 : j + 1 < q + 1 := by omega
      have HJ1 := Aside0.mk (And.intro hj1 hj1q)
      clear hj1 hj1q
      clear hb hbt he hm hgm hlr hfz hta hfB hnb hcells
      have qn1 : (8 * (bd.size : Int) == 0) = false := beq_eq_false_iff_ne.2 (by omega)
      have qn2 : (8 * (bd.size : Int) = 0) = False := eq_false (by omega)
      go_upto_block 2 with (fail)
      have HZN := Aside0.mk (And.intro hzE hzM)
      have hlF : (bl y).length = y.size := bl_length y
      have HlF := Aside0.mk hlF
      clear hcv5 y2 hzE hzM x0 x1 y1 hcv3 hcv4 b1 b2 b5 b6 b7 b8 b9 e4 hr1 hr1a hr1b hb' hb2 hlF hqn hqn2
      have hyb : fB + bd.size ≤ y.size := by
        have h1 := logE_le gs (j + 1)
        rw [HEE.out.2.2.1, ← HBL.out, bl_length] at h1
        have h2 := torn_at gs j (by rw [HJQ.out.2]; exact HJQ.out.1)
        rw [HEE.out.1, HEE.out.2.2.1, HFB.out.1, ← HFB.out.2] at h2
        omega
      go_cut [27] (fun v27 wx => ∃ i : Nat, i ≤ 32 ∧ b + i ≤ 8 * bd.size ∧ Go.Proofs.Ythlllcmffgdcmaa.Spoilt.BytesAt wx z (Go.Proofs.Ythlllcmffgdcmaa.CrcPlain.spoil (bl y) v (8 * fB + b) i) ∧ Below w.heap.size w wx ∧ OwnE wx w.heap.size (.slice (some ⟨ge, 0, none⟩) (q + 1) ce) gs ∧ Own wx w.heap.size (.slice Am N cm) ms)
      case first =>
        go_wp2
        go_loopw [27] (fun x wr => ∃ i : Nat, i ≤ 32 ∧ b + i ≤ 8 * bd.size ∧ x = .int .i64 i ∧ Go.Proofs.Ythlllcmffgdcmaa.Spoilt.BytesAt wr z (Go.Proofs.Ythlllcmffgdcmaa.CrcPlain.spoil (bl y) v (8 * fB + b) i) ∧ Below w.heap.size w wr ∧ OwnE wr w.heap.size (.slice (some ⟨ge, 0, none⟩) (q + 1) ce) gs ∧ Own wr w.heap.size (.slice Am N cm) ms) (fun x _ => 32 - (intOf x).toNat)
        case atStart => exact ⟨0, by omega, by omega, rfl, HBT.out, HBW.out, HEW.out, HMW.out⟩
        case round =>
          obtain ⟨i, hi, hbi, rfl, hs, hl, hre, hrm⟩ := hrel
          have HS := Aside0.mk hs
          have HL := Aside0.mk hl
          have HRE := Aside0.mk hre
          have HRM := Aside0.mk hrm
          clear hs hl hre hrm
          by_cases h32 : i < 32
          · have q1 : decide ((i : Int) < 32) = true := decide_eq_true (by omega)
            by_cases hbn : b + i < 8 * bd.size
            · have q2 : decide ((b : Int) < 8 * (bd.size : Int) - (i : Int)) = true := decide_eq_true (by omega)
              have hp : Go.bits .and .u32 ((v : Int) / 2 ^ i) 1 = ((v / 2 ^ i % 2 : Nat) : Int) := by
                rw [show (v : Int) / 2 ^ i = ((v / 2 ^ i : Nat) : Int) by rw [Int.natCast_ediv, Int.natCast_pow]; rfl]
                exact Go.Proofs.Ythlllcmffgdcmaa.CrcLink.and_one32 _ (Nat.lt_of_le_of_lt (Nat.div_le_self _ _) HV.out)
              by_cases hbit : v / 2 ^ i % 2 = 1
              · have p1 : (Go.bits .and .u32 ((v : Int) / 2 ^ i) 1 == 1) = true := by rw [hp, hbit]; rfl
                obtain ⟨q', hq'⟩ : ∃ q, q = (8 * fB + b + i) / 8 := ⟨_, rfl⟩
                obtain ⟨r, hr⟩ : ∃ r, r = (8 * fB + b + i) % 8 := ⟨_, rfl⟩
                obtain ⟨P1, hP1⟩ : ∃ n : Nat, 8 * fB + b = n := ⟨_, rfl⟩
                obtain ⟨P2, hP2⟩ : ∃ n : Nat, P1 + i = n := ⟨_, rfl⟩
                have e7 : IntKind.i64.wrap (8 * (fB : Int) + (b : Int)) = (P1 : Int) := by rw [IntKind.wrap_i64]; omega
                have e7' : IntKind.i64.wrap ((P1 : Int) + (i : Int)) = (P2 : Int) := by clear e7; rw [IntKind.wrap_i64]; omega
                have e8 : (P2 : Int) / 8 = (q' : Int) := by clear e7 e7'; omega
                have e9 : (P2 : Int) % 8 = (r : Int) := by clear e7 e7' e8; omega
                have e8' : (P2 : Int).tdiv 8 = (q' : Int) := by rw [Int.tdiv_eq_ediv_of_nonneg (by omega)]; exact e8
                have e9' : (P2 : Int).tmod 8 = (r : Int) := by rw [Int.tmod_eq_emod_of_nonneg (by omega)]; exact e9
                have hr8 : (r : Int) < 8 := by clear e7 e7' e8 e9 e8' e9'; omega
                have hqt : (q' : Int) < (y.size : Int) := by clear e7 e7' e8 e9 e8' e9'; omega
                have hqt2 : q' < y.size := by clear e7 e7' e8 e9 e8' e9'; omega
                have hc := HS.out q' (by rw [Go.Proofs.Ythlllcmffgdcmaa.CrcPlain.spoil_length, HlF.out]; clear e7 e7' e8 e9 e8' e9'; omega)
                have k0 := hc.1
                have k1 := hc.2
                have HQ2 := Aside0.mk (And.intro hq' (And.intro hr hbit))
                clear hc hp hbit hq' hr hP1 hP2
                have eqw : IntKind.i64.wrap (q' : Int) = (q' : Int) := by clear e7 e7' e8 e9 e8' e9'; rw [IntKind.wrap_i64]; omega
                have erw : IntKind.i64.wrap (r : Int) = (r : Int) := by clear e7 e7' e8 e9 e8' e9' eqw; rw [IntKind.wrap_i64]; omega
                go_wp2
                go_still_tail 18, (by kernel_rfl)
                change wpList _ _ _ _ _ wr.drew
                go_wp2
                have HF2 := Aside0.mk (Go.Proofs.Ythlllcmffgdcmaa.Spoilt.spoiled HS.out (by rw [Go.Proofs.Ythlllcmffgdcmaa.CrcPlain.spoil_length, HlF.out]; omega) HQ2.out.1 HQ2.out.2.1 HQ2.out.2.2 (Go.Proofs.Ythlllcmffgdcmaa.CrcPlain.spoil_lt _ _ _ _ (bl_lt y)))
                refine ⟨⟨i + 1, by omega, by clear e7 e7' e8 e9 e8' e9' eqw erw; omega, by go_num, HF2.out, ((HL.out.setCell (by have := HZ.out; exact this) _)).drew, OwnE.below (own_setCell HRE.out HZN.out.1 _) (below_drew (Below.refl _ _)), Own.below (own_setCell HRM.out HZN.out.2 _) (below_drew (Below.refl _ _))⟩, by simp [intOf]; clear e7 e7' e8 e9 e8' e9' eqw erw; omega⟩
              · have p1 : (Go.bits .and .u32 ((v : Int) / 2 ^ i) 1 == 1) = false := by rw [hp, beq_eq_false_iff_ne]; intro hh; exact hbit (by exact_mod_cast hh)
                clear hp
                have HSP := Aside0.mk (show Go.Proofs.Ythlllcmffgdcmaa.CrcPlain.spoil (bl y) v (8 * fB + b) (i + 1) = Go.Proofs.Ythlllcmffgdcmaa.CrcPlain.spoil (bl y) v (8 * fB + b) i from if_neg hbit)
                go_wp2
                exact ⟨⟨i + 1, by omega, by omega, by go_num, by rw [HSP.out]; exact HS.out, HL.out, HRE.out, HRM.out⟩, by simp [intOf]; omega⟩
            · have q2 : decide ((b : Int) < 8 * (bd.size : Int) - (i : Int)) = false := decide_eq_false (by omega)
              go_wp2
              go_meet
              exact ⟨i, hi, hbi, HS.out, HL.out, HRE.out, HRM.out⟩
          · have q1 : decide ((i : Int) < 32) = false := decide_eq_false (by omega)
            go_wp2
            go_meet
            exact ⟨i, hi, hbi, HS.out, HL.out, HRE.out, HRM.out⟩
      case rest =>
        obtain ⟨i, hi, hbi, hs, hl, hre, hrm⟩ := hcut
        obtain ⟨G, hG⟩ : ∃ G, G = strOfNums ((Go.Proofs.Ythlllcmffgdcmaa.CrcPlain.spoil (bl y) v (8 * fB + b) i).map Int.ofNat) := ⟨_, rfl⟩
        have hbG : bl G = Go.Proofs.Ythlllcmffgdcmaa.CrcPlain.spoil (bl y) v (8 * fB + b) i := by rw [hG]; exact bl_nums _ (Go.Proofs.Ythlllcmffgdcmaa.CrcPlain.spoil_lt _ _ _ _ (bl_lt y))
        have hln : (Go.Proofs.Ythlllcmffgdcmaa.CrcPlain.spoil (bl y) v (8 * fB + b) i).length = y.size := by rw [Go.Proofs.Ythlllcmffgdcmaa.CrcPlain.spoil_length, HlF.out]
        have hcv7 : ∀ w', Below wc.heap.size wc w' → (convert 59 9 (.slice (some ⟨z, 0, none⟩) y.size cR)).run Try.prog w' = .ok (.string G) w' := fun w' hb => by
          refine Go.Proofs.Ythlllcmffgdcmaa.Spoilt.conv_of ?_ hG
          rw [← hln]
          exact (hs.below hb).reads (by rw [hln]; have := HYS.out; omega)
        have hcv6 := hcv7 wc (Below.refl _ _)
        obtain ⟨ge', ee, -, -, hcells⟩ := hre.at_
        injection ee with ee
        injection ee with ee
        subst ee
        have x0 := hcells j (by rw [HJQ.out.2]; exact Nat.le_of_lt HJQ.out.1)
        rw [HEE.out.2.1] at x0
        have hmany : gs.flatten.length ≤ 1000 := by rw [HFL.out.1, HN.out.1]; have := HN.out.2; omega
        have hfN : gs.flatten.length = N := by rw [HFL.out.1, HN.out.1]
        have HCV := Aside0.mk hcv7
        have HMW := Aside0.mk hrm
        have HLW := Aside0.mk hl
        have HX0 := Aside0.mk (fun w' (hb : Below wc.heap.size wc w') => (hb.cell (World.block_lt_of_cell? wc _ x0)).trans x0)
        clear HBT HEW HBW hcells hre hrm hl hcv7 hG hs x0
        by_cases hw : bl G = bl y
        · have hGy : G = y := bl_inj hw
          have hn1 : (G.toList == y.toList) = true := by rw [hGy]; simp
          have hW := whole_log gs HGP.out.1 hmany G [] (by rw [List.append_nil, hw, HBL.out]) openL_none (by simp)
          have hrd := fun W => read_calls G gs (logE gs) hW W
          have HRD := Aside0.mk hrd
          obtain ⟨eN, heN⟩ : ∃ n, logE gs gs.length = n := ⟨_, rfl⟩
          rw [heN, HJQ.out.2] at HRD
          have HFN := Aside0.mk hfN
          have q20 : ((N : Int) == (N : Int)) = true := by simp
          clear hW hrd hmany heN hGy hbG hln hw hfN
          go_wp2_with (first
            | (go_at_call 46; (with_reducible refine (HRD.out _).mono ?_); rintro e wz ⟨vz, rfl, ho, hb⟩; obtain ⟨Az, cz, rfl⟩ := ho.slice; rw [HFN.out]; have HBZ := Aside0.mk (below_then HLW.out HLW.out.size hb); have hcv8 := HCV.out wz hb; clear ho hb))
          go_ret
          exact ⟨rfl, HBZ.out⟩
        · have hn1 : (G.toList == y.toList) = false := beq_eq_false_iff_ne.2 fun h => hw (by rw [Go.Proofs.Ythlllcmffgdcmaa.Spoilt.toList_inj h])
          have hW := torn_whole gs HGP.out.1 hmany j (by rw [HJQ.out.2]; exact HJQ.out.1) v b i hi (by rw [HEE.out.1, ← HFB.out.2]; exact hbi) G (by rw [hbG, HBL.out, HFB.out.1]) (by rw [← HBL.out]; exact hw)
          have hrd := fun W => read_calls G (gs.take j) (logE (gs.take j)) hW W
          have hlt : (gs.take j).length = j := by rw [List.length_take, HJQ.out.2]; have := HJQ.out.1; omega
          have he0 : logE (gs.take j) (gs.take j).length = e0 := by rw [logE_all, ← HEE.out.2.1]; rfl
          rw [he0, hlt] at hrd
          have hmin := torn_min HGP.out.2 (j := j) (by rw [HJQ.out.2]; exact HJQ.out.1)
          have hft := flat_take gs j
          rw [hfN] at hmin
          rw [HFL.out.1] at hft
          obtain ⟨fl, hfl⟩ : ∃ f, (gs.take j).flatten = f := ⟨_, rfl⟩
          rw [hfl] at hrd hmin hft
          obtain ⟨kk, hkk⟩ : ∃ kk, fl.length = kk := ⟨_, rfl⟩
          obtain ⟨jm, hjm⟩ : ∃ n, j * m = n := ⟨_, rfl⟩
          rw [hkk, hjm] at hmin
          rw [hkk] at hft
          have hjm2 : jm ≤ 40 * 6 := by rw [← hjm]; exact Nat.mul_le_mul (by have := HJQ.out.1; omega) HMM.out.2.1
          have hjw : wrap64 ((j : Int) * (m : Int)) = (jm : Int) := by
            rw [show (j : Int) * (m : Int) = (jm : Int) by rw [← hjm, Int.natCast_mul]]
            unfold wrap64
            omega
          have hmi : (if (N : Int) < (jm : Int) then (N : Int) else (jm : Int)) = (kk : Int) := by clear hjw; split <;> omega
          have hmi2 : (if N < jm then (N : Int) else (jm : Int)) = (kk : Int) := by clear hjw hmi; split <;> omega
          have hkN : kk ≤ N := by clear hjw hmi hmi2; omega
          have hcmN : N ≤ cm := by
            obtain ⟨A', c', e, h1, h2⟩ := HMW.out.reads
            injection e with _ e1 e
            clear hjw hmi
            omega
          have hcut := Own.cut HMW.out kk hkN
          rw [hft] at hcut
          have HRD := Aside0.mk hrd
          have HCUT := Aside0.mk hcut
          have HKK := Aside0.mk (And.intro hkk (show kk ≤ 1000 by clear hjw hmi hmi2; have := HN.out.2; omega))
          have q20 : ((j : Int) == (j : Int)) = true := by simp
          have q21 : ((e0 : Int) == (e0 : Int)) = true := by simp
          have b10 : (0 : Int) ≤ (kk : Int) := by clear hjw hmi hmi2; omega
          have b11 : (kk : Int) ≤ (cm : Int) := by clear hjw hmi hmi2; omega
          have b12 : (0 : Int) ≤ (j : Int) := by clear hjw hmi hmi2; omega
          have b13 : (j : Int) < (q : Int) + 1 := by have := HJQ.out.1; clear hjw hmi hmi2; omega
          have b14 : j < q + 1 := by have := HJQ.out.1; clear hjw hmi hmi2; omega
          clear hW hrd hmany hlt he0 hmin hft hfl hkk hjm hjm2 hcut hbG hln hw hfN hcmN
          go_wp2_with (first
            | (go_at_call 46; (with_reducible refine (HRD.out _).mono ?_); rintro e wz ⟨vz, rfl, ho, hb⟩; obtain ⟨Az, cz, rfl⟩ := ho.slice; rw [HKK.out.1]; have HO := Aside0.mk ho; have HBZ := Aside0.mk (below_then HLW.out HLW.out.size hb); have hcv8 := HCV.out wz hb; have hx0 := HX0.out wz hb; have HCT := Aside0.mk (HCUT.out.below hb); clear ho hb)
            | (go_at_call 21; (with_reducible refine (told_calls _ _ _ fl HCT.out (by rw [HKK.out.1]; exact HKK.out.2)).mono ?_); rintro e wt ⟨vt, rfl, ht, hb⟩; have HTT := Aside0.mk ht; have HOT := Aside0.mk (HO.out.below hb); have HBT := Aside0.mk (below_then HBZ.out HBZ.out.size hb); clear ht hb)
            | (go_at_call 20; (with_reducible refine (are_calls _ _ _ _ _ fl (by have h := HOT.out; rw [HKK.out.1] at h; exact h) HTT.out (by rw [HKK.out.1]; exact HKK.out.2)).mono ?_); rintro e wy ⟨rfl, hb⟩; have HBY := Aside0.mk (below_then HBT.out HBT.out.size hb); clear hb))
          go_ret
          exact ⟨rfl, HBY.out⟩
theorem torn_law' (A : Option Addr) (c : Nat) (l : List S36) (x which bit v : Int) (h : (Lit.int .u32 v).wf = true) (w : World) (hK : Kd.C k36 w A l.length l) (hc : l.length ≤ c) :
    Calls Try.prog 14 #[.slice A l.length c, .int .i64 x, .int .i64 which, .int .i64 bit, .int .u32 v] w fun e w' => e = .returned (.bool true) ∧ Below w.heap.size w w' := by
  have e1 : IntKind.u32.min = 0 := by decide
  have e2 : IntKind.u32.max = 4294967295 := by decide
  simp only [Lit.wf, e1, e2, Bool.and_eq_true, decide_eq_true_eq] at h
  obtain ⟨n, rfl⟩ := Int.eq_ofNat_of_zero_le h.1
  exact torn_law A c l x which bit n (by omega) w hK hc
end Go.Proofs.Ythlllcmffgdcmaa.Book

import Derived.Test.YthlllcmffgdcmaaSpoilt0
namespace Go.Proofs.Ythlllcmffgdcmaa.Spoilt
open Go.RowKit Go.Proofs.Ythlllcmffgdcmaa.QSegmentOpens Go.Proofs.YthlllcmffgdcmaaW.PrintWords Go.Proofs.YthlllcmffgdcmaaW.PrintLast Go.Proofs.YthlllcmffgdcmaaW.PrintMore Go.Proofs.Ythlllcmffgdcmaa.LebPlain Go.Proofs.Ythlllcmffgdcmaa.LebWords Go.Proofs.Ythlllcmffgdcmaa.RecPlain Go.Proofs.Ythlllcmffgdcmaa.CrcPlain Go.Proofs.Ythlllcmffgdcmaa.SegPlain Go.Proofs.Ythlllcmffgdcmaa.SegLinkQSegmentOpens Go.Proofs.Ythlllcmffgdcmaa.Pure Go.Proofs.Ythlllcmffgdcmaa
set_option linter.unusedVariables false
set_option linter.unusedSimpArgs false

theorem ends (G F : ByteArray) (er : Int) (l : List Nat) (hG : bl G = l) (hE : er = if l = bl F then 0 else 7) :
    (er = 0 ∧ (G.toList == F.toList) = true) ∨ (er = 7 ∧ (G.toList == F.toList) = false) := by
  by_cases h : l = bl F
  · left
    rw [if_pos h] at hE
    have : G = F := bl_inj (hG.trans h)
    subst this
    exact ⟨hE, by simp⟩
  · right
    rw [if_neg h] at hE
    refine ⟨hE, beq_eq_false_iff_ne.2 fun he => h ?_⟩
    rw [← hG, toList_inj he]

theorem cv3 {w w' : World} {z : Nat} {l : List Nat} {G : ByteArray} {n : Nat} (h : BytesAt w z l) (hn : l.length = n) (hG : G = strOfNums (l.map Int.ofNat)) (hb : Below w.heap.size w w') (hm : n ≤ 1000) (cR : Nat) :
    (convert 59 9 (.slice (some ⟨z, 0, none⟩) n cR)).run Try.prog w' = .ok (.string G) w' := by
  refine conv_of ?_ hG
  rw [← hn]
  exact (h.below hb).reads (by omega)

set_option maxHeartbeats 4000000 in
set_option maxRecDepth 100000 in
theorem spoilt_law (seq : Nat) (hseq : seq < 18446744073709551616) (s : ByteArray) (bit : Int) (v : Nat) (hv : v < 4294967296) (w : World) :
    Calls Try.prog 8 #[.int .u64 (seq : Int), .string s, .int .i64 bit, .int .u32 (v : Int)] w fun e w' => e = .returned (.bool true) ∧ Below w.heap.size w w' := by
  have hts := cutS_size s 200
  obtain ⟨t, ht⟩ : ∃ t, t = cutS s 200 := ⟨_, rfl⟩
  rw [← ht] at hts
  have HT := Aside0.mk ht
  clear ht
  have HQ := Aside0.mk hseq
  by_cases h0 : t.size = 0
  · have hE : t.toList.isEmpty = true := (empty_iff t).2 h0
    clear h0 hts hseq
    go_enter Try.func8, Try.ntmps8
    go_wp2_with (first
      | (go_at_call 25; (with_reducible refine (cut_calls _ 200 200 rfl _).mono ?_); rintro e w3 ⟨rfl, rfl⟩; rw [← HT.out])
      | (go_at_call 29; (with_reducible refine (awake_calls w).mono ?_); rintro e w1 ⟨rfl, hb⟩; have B1 := Aside0.mk hb; clear hb)
      | (go_at_call 29; (with_reducible refine (awake_calls w1).mono ?_); rintro e w2 ⟨rfl, hb⟩; have B2 := Aside0.mk (below_step B1.out hb); clear hb))
    go_ret
    exact ⟨rfl, B2.out⟩
  · have hE : t.toList.isEmpty = false := by
      cases he : t.toList.isEmpty with
      | true => exact absurd ((empty_iff t).1 he) h0
      | false => rfl
    have hpos : 0 < t.size := by omega
    have hbl : (bl t).length = t.size := bl_length t
    have hFl := frameL_len seq (bl t)
    have hHl := headOf_len seq (bl t).length
    have p1 := putN_len seq hseq
    have p2 := putN_len (bl t).length (by omega)
    obtain ⟨F, hF⟩ : ∃ F, F = strB (frameL seq (bl t)) := ⟨_, rfl⟩
    have hbF : bl F = frameL seq (bl t) := by rw [hF, bl_strB _ (frameL_lt _ _ (bl_lt _))]
    have hFs : F.size = (headOf seq (bl t).length).length + t.size + 4 := by rw [← bl_length, hbF, hFl, hbl]
    obtain ⟨m, hm⟩ : ∃ m, m = (headOf seq (bl t).length).length := ⟨_, rfl⟩
    have hm100 : m ≤ 100 := by omega
    have HF := Aside0.mk hF
    have HbF := Aside0.mk hbF
    have HM := Aside0.mk hm
    have hFm : F.size = m + t.size + 4 := by omega
    clear hF hbF hFs hm hFl hHl p1 p2 hbl
    have hcv := print_bytes (P := Try.prog) 9 59 5 Try.underlying9 Try.underlying59 Try.underlying5 F
    obtain ⟨r1, hr1, hr1a, hr1b⟩ : ∃ r1 : Int, bit.tmod (8 * (t.size : Int)) = r1 ∧ -(8 * (t.size : Int)) < r1 ∧ r1 < 8 * (t.size : Int) := by
      refine ⟨_, rfl, ?_, ?_⟩
      · exact Int.lt_tmod_of_pos bit (by omega)
      · exact Int.tmod_lt_of_pos bit (by omega)
    obtain ⟨b, hb, hbl⟩ : ∃ b : Nat, (r1 + 8 * (t.size : Int)).tmod (8 * (t.size : Int)) = (b : Int) ∧ b < 8 * t.size := by
      have h1 := Int.tmod_nonneg (8 * (t.size : Int)) (a := r1 + 8 * (t.size : Int)) (by omega)
      have h2 := Int.tmod_lt_of_pos (r1 + 8 * (t.size : Int)) (b := 8 * (t.size : Int)) (by omega)
      exact ⟨((r1 + 8 * (t.size : Int)).tmod (8 * (t.size : Int))).toNat, by omega, by omega⟩
    have hb' : (r1 + 8 * (t.size : Int)) % (8 * (t.size : Int)) = (b : Int) := by rw [← hb, Int.tmod_eq_emod_of_nonneg (by omega)]
    have e4 : (F.size : Int) - 4 - (t.size : Int) = (m : Int) := by omega
    clear h0 hseq
    go_enter Try.func8, Try.ntmps8
    go_upto_block 0 with (first
      | (go_at_call 25; (with_reducible refine (cut_calls _ 200 200 rfl _).mono ?_); rintro e w3 ⟨rfl, rfl⟩; rw [← HT.out])
      | (go_at_call 29; (with_reducible refine (awake_calls w).mono ?_); rintro e w1 ⟨rfl, hb⟩; have B1 := Aside0.mk hb; clear hb)
      | (go_at_call 30; (with_reducible refine (frame_calls seq HQ.out t F (by omega) HF.out w1).mono ?_); rintro e w2 ⟨rfl, hb⟩; have B2 := Aside0.mk (below_step B1.out hb); clear hb))
    have HB0 := Aside0.mk (bytes_at_new w2 F)
    have HL0 := Aside0.mk (bytes_below B2.out B2.out.size 5 F)
    have HZ := Aside0.mk (B2.out.size)
    generalize grownCap w2 (m + t.size + 4) 0 5 = cR
    generalize w2.heap.size = z at HB0 HZ ⊢
    generalize Lib.bytesWorld w2 5 F = w3 at HB0 HL0 ⊢
    have hlF : (bl F).length = m + t.size + 4 := by rw [bl_length]; omega
    have HlF := Aside0.mk hlF
    clear hcv hr1 hb hb' hr1a hr1b e4 hlF
    go_cut [14] (fun v14 wx => ∃ i : Nat, i ≤ 32 ∧ b + i ≤ 8 * t.size ∧ BytesAt wx z (spoil (bl F) v (8 * m + b) i) ∧ Below w.heap.size w wx)
    case first =>
      go_wp2
      go_loopw [14] (fun x wr => ∃ i : Nat, i ≤ 32 ∧ b + i ≤ 8 * t.size ∧ x = .int .i64 i ∧ BytesAt wr z (spoil (bl F) v (8 * m + b) i) ∧ Below w.heap.size w wr) (fun x _ => 32 - (intOf x).toNat)
      case atStart => exact ⟨0, by omega, by omega, rfl, HB0.out, HL0.out⟩
      case round =>
        obtain ⟨i, hi, hbi, rfl, hs, hl⟩ := hrel
        have HS := Aside0.mk hs
        have HL := Aside0.mk hl
        clear hs hl
        by_cases h32 : i < 32
        · have q1 : decide ((i : Int) < 32) = true := decide_eq_true (by omega)
          by_cases hbn : b + i < 8 * t.size
          · have q2 : decide ((b : Int) < 8 * (t.size : Int) - (i : Int)) = true := decide_eq_true (by omega)
            have hp : Go.bits .and .u32 ((v : Int) / 2 ^ i) 1 = ((v / 2 ^ i % 2 : Nat) : Int) := by
              rw [show (v : Int) / 2 ^ i = ((v / 2 ^ i : Nat) : Int) by rw [Int.natCast_ediv, Int.natCast_pow]; rfl]
              exact CrcLink.and_one32 _ (Nat.lt_of_le_of_lt (Nat.div_le_self _ _) hv)
            by_cases hbit : v / 2 ^ i % 2 = 1
            · have p1 : (Go.bits .and .u32 ((v : Int) / 2 ^ i) 1 == 1) = true := by rw [hp, hbit]; rfl
              obtain ⟨q, hq⟩ : ∃ q, q = (8 * m + b + i) / 8 := ⟨_, rfl⟩
              obtain ⟨r, hr⟩ : ∃ r, r = (8 * m + b + i) % 8 := ⟨_, rfl⟩
              have e8 : (8 * (m : Int) + (b : Int) + (i : Int)) / 8 = (q : Int) := by omega
              have e9 : (8 * (m : Int) + (b : Int) + (i : Int)) % 8 = (r : Int) := by omega
              have e8' : (8 * (m : Int) + (b : Int) + (i : Int)).tdiv 8 = (q : Int) := by rw [Int.tdiv_eq_ediv_of_nonneg (by omega)]; exact e8
              have e9' : (8 * (m : Int) + (b : Int) + (i : Int)).tmod 8 = (r : Int) := by rw [Int.tmod_eq_emod_of_nonneg (by omega)]; exact e9
              have hr8 : (r : Int) < 8 := by clear e8 e9 e8' e9'; omega
              have hqt : (q : Int) < (m : Int) + (t.size : Int) + 4 := by clear e8 e9 e8' e9'; omega
              have hc := HS.out q (by rw [spoil_length, HlF.out]; clear e8 e9 e8' e9'; omega)
              have k0 := hc.1
              have k1 := hc.2
              have HQ2 := Aside0.mk (And.intro hq (And.intro hr hbit))
              clear hc hp hbit hq hr
              have eqw : IntKind.i64.wrap (q : Int) = (q : Int) := by clear e8 e9 e8' e9'; rw [IntKind.wrap_i64]; omega
              have erw : IntKind.i64.wrap (r : Int) = (r : Int) := by clear e8 e9 e8' e9'; rw [IntKind.wrap_i64]; omega
              go_wp2
              go_still_tail 10, (by kernel_rfl)
              change wpList _ _ _ _ _ wr.drew
              go_wp2
              have HF2 := Aside0.mk (spoiled HS.out (by rw [spoil_length, HlF.out]; omega) HQ2.out.1 HQ2.out.2.1 HQ2.out.2.2 (spoil_lt _ _ _ _ (bl_lt F)))
              exact ⟨⟨i + 1, by omega, by clear e8 e9 e8' e9' eqw erw; omega, by go_num, HF2.out, ((HL.out.setCell (by have := HZ.out; exact this) _)).drew⟩, by simp [intOf]; clear e8 e9 e8' e9' eqw erw; omega⟩
            · have p1 : (Go.bits .and .u32 ((v : Int) / 2 ^ i) 1 == 1) = false := by rw [hp, beq_eq_false_iff_ne]; intro hh; exact hbit (by exact_mod_cast hh)
              clear hp
              have HSP := Aside0.mk (show spoil (bl F) v (8 * m + b) (i + 1) = spoil (bl F) v (8 * m + b) i from if_neg hbit)
              go_wp2
              exact ⟨⟨i + 1, by omega, by omega, by go_num, by rw [HSP.out]; exact HS.out, HL.out⟩, by simp [intOf]; omega⟩
          · have q2 : decide ((b : Int) < 8 * (t.size : Int) - (i : Int)) = false := decide_eq_false (by omega)
            go_wp2
            go_meet
            exact ⟨i, hi, hbi, HS.out, HL.out⟩
        · have q1 : decide ((i : Int) < 32) = false := decide_eq_false (by omega)
          go_wp2
          go_meet
          exact ⟨i, hi, hbi, HS.out, HL.out⟩
    case rest =>
      obtain ⟨i, hi, hbi, hs, hl⟩ := hcut
      obtain ⟨l, hl0⟩ : ∃ l, l = spoil (bl F) v (8 * m + b) i := ⟨_, rfl⟩
      have hln : l.length = m + t.size + 4 := by rw [hl0, spoil_length, HlF.out]
      have hlt : ∀ x ∈ l, x < 256 := by rw [hl0]; exact spoil_lt _ _ _ _ (bl_lt F)
      rw [← hl0] at hs
      obtain ⟨G, hG⟩ : ∃ G, G = strOfNums (l.map Int.ofNat) := ⟨_, rfl⟩
      have hbG : bl G = l := by rw [hG]; exact bl_nums l hlt
      have hGs : G.size ≤ 1000000 := by rw [← bl_length, hbG, hln]; omega
      have hEr : (openL (bl G)).2.2.2 = if l = bl F then 0 else 7 := by
        rw [hbG, hl0, HbF.out, HM.out]
        exact spoilt_open seq (bl t) HQ.out (by rw [bl_length]; omega) (bl_lt t) v b i hi (by rw [bl_length]; exact hbi)
      obtain ⟨er, her⟩ : ∃ er : Int, er = ((openL (bl G)).2.2.2 : Int) := ⟨_, rfl⟩
      have hEnd := ends G F er l hbG (by rw [her, hEr]; split <;> rfl)
      have HS := Aside0.mk hs
      have HL := Aside0.mk hl
      have HG := Aside0.mk hG
      have HGs := Aside0.mk hGs
      have HE := Aside0.mk her
      have HLn := Aside0.mk hln
      have hcv2 : (convert 59 9 (.slice (some ⟨z, 0, none⟩) (m + t.size + 4) cR)).run Try.prog wc = .ok (.string G) wc := by
        refine conv_of ?_ hG
        rw [← hln]
        exact hs.reads (by omega)
      clear hs hl hG hGs her hln hlt hbG hl0 hEr
      rcases hEnd with ⟨rfl, hn1⟩ | ⟨rfl, hn1⟩
      all_goals
        go_wp2_with (go_at_call 31; (with_reducible refine (open_calls G HGs.out _ HE.out wc).mono ?_); rintro e w4 ⟨r1, r2, r3, rfl, hb⟩; have B4 := Aside0.mk hb; clear hb hcv2; have hcv3 := cv3 HS.out HLn.out HG.out B4.out (by omega) cR)
        go_ret
        exact ⟨rfl, below_step HL.out B4.out⟩

theorem spoilt_law' (seq : Int) (s : ByteArray) (bit v : Int) (h0 : (Lit.int .u64 seq).wf = true) (h : (Lit.int .u32 v).wf = true) (w : World) :
    Calls Try.prog 8 #[.int .u64 seq, .string s, .int .i64 bit, .int .u32 v] w fun e w' => e = .returned (.bool true) ∧ Below w.heap.size w w' := by
  have e1 : IntKind.u32.min = 0 := by decide
  have e2 : IntKind.u32.max = 4294967295 := by decide
  have e3 : IntKind.u64.min = 0 := by decide
  have e4 : IntKind.u64.max = 18446744073709551615 := by decide
  simp only [Lit.wf, e1, e2, e3, e4, Bool.and_eq_true, decide_eq_true_eq] at h h0
  obtain ⟨n, rfl⟩ := Int.eq_ofNat_of_zero_le h.1
  obtain ⟨m, rfl⟩ := Int.eq_ofNat_of_zero_le h0.1
  exact spoilt_law m (by omega) s bit n (by omega) w
end Go.Proofs.Ythlllcmffgdcmaa.Spoilt

/- Texts of this claim, joined: Book9. -/
import Derived.Test.YthlllcmffgdcmaaM4
import Derived.Deep.DeepCutAuto
import Derived.Deep.CutBlock
namespace Go.Proofs.Ythlllcmffgdcmaa.Book
open Go.RowKit Go.Proofs.YthlllcmffgdcmaaW.PrintWords Go.Proofs.YthlllcmffgdcmaaW.PrintLast Go.Proofs.YthlllcmffgdcmaaW.PrintMore Go.Proofs.Ythlllcmffgdcmaa.Stores Go.Proofs.Ythlllcmffgdcmaa.LebPlain Go.Proofs.Ythlllcmffgdcmaa.LebWords Go.Proofs.Ythlllcmffgdcmaa.RecPlain Go.Proofs.Ythlllcmffgdcmaa.SegPlain
open Go.Proofs.Ythlllcmffgdcmaa.PRecordReads (S31 k31 S36 k36)
attribute [local go_sem] max2_int min2_int max_two min_two
set_option linter.unusedVariables false
set_option linter.unusedSimpArgs false

theorem waiting0 (B gb g : Nat) (m q : Int) (vw : Value) (sure : Int) (w : World) (h : Bk B w gb g m q vw [] sure) : Calls Try.prog 42 #[.pointer (some ⟨gb, 0, none⟩)] w fun e w' => e = .returned (.int .i64 0) ∧ w = w' := waiting_calls B gb g m q vw [] sure w h
theorem log_room {G : List (List Nat)} {y cj : ByteArray} (hg : Good G) (hl : G.flatten.length ≤ 100) (hy : bl y = 63 :: bl cj) (hc : cj.size ≤ 10) : ((((logF 0 G).map Int.ofNat).length + y.size : Nat) : Int) ≤ 1048576 ∧ (logF 0 G).length ≤ 3600 ∧ y.size ≤ 100 := by
  have h1 := many_le G fun g h => (hg g h).1
  have h2 := log_size G 0 hg (by omega)
  have h3 : y.size = cj.size + 1 := by rw [← bl_length, hy, List.length_cons, bl_length]
  rw [List.length_map]
  omega
/-- Rows of decisions, that are read. -/
def Parts (w : World) (A : Option Addr) (ps : List (List S36)) : Prop := ∀ i, i < ps.length → ∃ ad A' c, A = some ad ∧ w.cell? (ad.add i) = some (.slice A' (ps.getD i []).length c) ∧ (ps.getD i []).length ≤ c ∧ Kd.C k36 w A' (ps.getD i []).length (ps.getD i [])
theorem Parts.below {w w' : World} {A : Option Addr} {ps : List (List S36)} (h : Parts w A ps) (hb : Below w.heap.size w w') : Parts w' A ps := fun i hi => by
  obtain ⟨ad, A', c, e, h1, h2, h3⟩ := h i hi
  exact ⟨ad, A', c, e, pw_cell_below hb h1, h2, Kd.C_below h3 hb⟩

theorem ints_at {w : World} {A1 : Option Addr} {zs : List Int} (h : ReadsInt w .i64 A1 zs.length zs) (i : Nat) (hi : i < zs.length) : ∃ ad z, A1 = some ad ∧ w.cell? (ad.add i) = some (.int .i64 z) := by
  obtain ⟨ad, e, hc⟩ := h.at_ (i : Int) (by omega) (by omega)
  rw [Int.toNat_natCast] at hc
  exact ⟨ad, _, e, hc⟩
/-- What stands between two openings. -/
structure Betw (B g : Nat) (w0 w : World) (va : Value) (gs : List (List Nat)) (jk : List Nat) (n : Nat) : Prop where
  all : OwnA w B va gs.flatten
  sto : ∃ safe, Sto 1048576 B w g ((logF 0 gs ++ jk).map Int.ofNat) safe
  good : Good gs
  stop : (openL jk).2.2.2 ≠ 0
  jl : jk.length ≤ 100
  jb : ∀ b ∈ jk, b < 256
  few : gs.flatten.length ≤ 10 * n
  below : Below B w0 w

set_option maxHeartbeats 4000000 in
set_option maxRecDepth 100000 in
theorem many_law (A A1 : Option Addr) (c c1 : Nat) (ps : List (List S36)) (zs : List Int) (junk : ByteArray) (w : World) (hP : Parts w A ps) (hZ : ReadsInt w .i64 A1 zs.length zs) (hjunk : junk.size ≤ 140737488351232) :
    Calls Try.prog 12 #[.slice A ps.length c, .slice A1 zs.length c1, .string junk] w fun e w' => e = .returned (.bool true) ∧ Below w.heap.size w w' := by
  have HP := Aside0.mk hP
  have HZ := Aside0.mk hZ
  have HJ := Aside0.mk hjunk
  obtain ⟨cj, hcj⟩ : ∃ cj, Spoilt.cutS junk 10 = cj := ⟨_, rfl⟩
  have hcs := Spoilt.cutS_size junk 10
  rw [hcj] at hcs
  have HCC := Aside0.mk (fun w => hcj ▸ Spoilt.cut_calls junk 10 10 rfl w)
  clear hP hZ hcj
  go_enter Try.func12, Try.ntmps12
  go_upto_block 0 with (first
    | (go_at_call 38; (with_reducible refine (awake_calls w).mono ?_); rintro e w1 ⟨rfl, hb⟩; have B1 := Aside0.mk hb; clear hb)
    | (go_at_call 39; (with_reducible refine (new_calls w.heap.size 1048576 (by omega) w1 B1.out.size).mono ?_); rintro e w2 ⟨g, rfl, hs, hb⟩; have HS2 := Aside0.mk (show Sto 1048576 w.heap.size w2 g [] 0 from hs); have HB2 := Aside0.mk (below_then B1.out B1.out.size hb); clear hs hb))
  have HB0 := Aside0.mk (show Betw w.heap.size g w (w2.alloc (.cells #[] 36)) (.slice (some ⟨w2.heap.size, 0, none⟩) 0 0) [] [] 0 from
    ⟨⟨by simp [rcs], .inr ⟨w2.heap.size, 0, #[], rfl, HB2.out.size, blk_new w2 _, Nat.le_refl _, by simp [maxLen], by simp, by simp [rcs]⟩⟩, ⟨0, HS2.out.below (below_alloc (Below.refl _ _) _)⟩, Good.nil, openL_none, by simp, (fun b hb => by cases hb), by simp, HB2.out.alloc HB2.out.size _⟩)
  clear HS2 HB2
  obtain ⟨va, hva⟩ : ∃ va, Value.slice (some ⟨w2.heap.size, 0, none⟩) 0 0 = va := ⟨_, rfl⟩
  change Code.wp _ _ _ _ (w2.alloc (.cells #[] 36))
  generalize w2.alloc (.cells #[] 36) = w3 at HB0 ⊢
  rw [hva] at HB0 ⊢
  clear hva
  go_cut [8] (fun v8 wx => ∃ (gs : List (List Nat)) (jk : List Nat), Betw w.heap.size g w wx v8 gs jk 5)
  case first =>
    go_wp2
    go_loopw [8, 9] (fun v8 v9 wr => ∃ (i : Nat) (gs : List (List Nat)) (jk : List Nat), i ≤ 5 ∧ v9 = .int .i64 i ∧ Betw w.heap.size g w wr v8 gs jk i) (fun _ x _ => 5 - (intOf x).toNat)
    case atStart => exact ⟨0, [], [], by omega, rfl, HB0.out⟩
    case round =>
      clear HB0
      obtain ⟨i, gs, jk, hi, rfl, hB⟩ := hrel
      have HB := Aside0.mk hB
      have hend : Betw w.heap.size g w wr u8 gs jk 5 := { hB with few := by have := hB.few; omega }
      have HEND := Aside0.mk hend
      clear hB hend
      by_cases hp : i < ps.length
      · have q1 : decide ((i : Int) < (ps.length : Int)) = true := decide_eq_true (by omega)
        by_cases hz : i < zs.length
        · have q2 : decide ((i : Int) < (zs.length : Int)) = true := decide_eq_true (by omega)
          by_cases h5 : i < 5
          · have q3 : decide ((i : Int) < 5) = true := decide_eq_true (by omega)
            have b0 : (0 : Int) ≤ (i : Int) := by omega
            have b1 : (i : Int) < (zs.length : Int) := by omega
            have b2 : (i : Int) < (ps.length : Int) := by omega
            obtain ⟨ad1, z, e1, z1⟩ := ints_at (HZ.out.below HB.out.below) i hz
            subst e1
            obtain ⟨Av, cv, rfl⟩ := HB.out.all.slice
            have hfew := HB.out.few
            obtain ⟨safe, hsto⟩ := HB.out.sto
            have HOP := Aside0.mk (open_bo (w0 := w) jk safe z hsto HB.out.good (by omega) HB.out.stop (by have := HB.out.jl; omega) HB.out.jb HB.out.below)
            have HPI := Aside0.mk (And.intro hp (And.intro hz h5))
            obtain ⟨N, hN⟩ : ∃ N, gs.flatten.length = N := ⟨_, rfl⟩
            have HN := Aside0.mk hN
            rw [hN] at hfew ⊢
            clear hsto hN HEND
            go_upto_region 9 with (go_at_call 40; (with_reducible refine HOP.out.mono ?_); rintro e w4 ⟨gb, v, rfl, hbo, ho, ht, hgb, hsz⟩; have HBO := Aside0.mk hbo; have HO := Aside0.mk ho; have HA4 := Aside0.mk (HB.out.all.tm ht); have HSZ := Aside0.mk (And.intro hgb hsz); clear hbo ho ht hgb hsz z1)
            have ha4 := HA4.out
            rw [HN.out] at ha4
            have HA5 := Aside0.mk ha4
            have hbk := HBO.out.bk
            rw [HN.out] at hbk
            have HBK := Aside0.mk hbk
            have hN1 : N ≤ 1000 := by omega
            obtain ⟨ad0, A', c', e0, p0, hpc, hpk⟩ := (HP.out.below HBO.out.below) i HPI.out.1
            subst e0
            have HAR := Aside0.mk (are_calls w4 _ _ v (.slice Av N cv) gs.flatten HO.out HA5.out (by rw [HN.out]; exact hN1))
            generalize ps.getD i [] = li at p0 hpc hpk
            have HPK := Aside0.mk (And.intro hpc hpk)
            have HNN := Aside0.mk (show N ≤ 10 * i from hfew)
            clear ha4 hbk HA4 HOP HB hpc hpk HO
            go_upto_region 11 with (first
              | (go_at_call 20; (with_reducible refine HAR.out.mono ?_); rintro e w5 ⟨rfl, hb⟩; have HB5 := Aside0.mk hb; have HBK5 := Aside0.mk (HBK.out.below hb); have p5 := pw_cell_below hb p0; clear hb p0)
              | (go_at_call 41; (with_reducible refine (sure_calls _ gb g _ _ _ _ _ _ HBK5.out).mono ?_); rintro e w' ⟨rfl, rfl⟩)
              | (go_at_call 42; (with_reducible refine (waiting0 _ gb g _ _ _ _ _ HBK5.out).mono ?_); rintro e w' ⟨rfl, rfl⟩))
            go_upto_region 12 with (go_at_call 16; (with_reducible refine (some_calls _ A' c' li (Kd.C_below HPK.out.2 HB5.out) HPK.out.1).mono ?_); rintro e w6 ⟨vm, ms, rfl, hm, hml, hmc, hb⟩; have HM := Aside0.mk hm; have HML := Aside0.mk (And.intro hml hmc); have HB6 := Aside0.mk (below_then HB5.out HB5.out.size hb); clear hm hml hmc hb p5)
            obtain ⟨Am, cm, hvm, hmc, _⟩ := HM.out.reads
            subst hvm
            have HBO6 := Aside0.mk (HBO.out.on HB6.out)
            have HA6 := Aside0.mk (HA5.out.below HB6.out)
            obtain ⟨n10, hn10⟩ : ∃ n : Nat, (if 10 < ms.length then 10 else ms.length) = n := ⟨_, rfl⟩
            have hn1 : n10 ≤ ms.length ∧ n10 ≤ 10 := by split at hn10 <;> omega
            have em1 : (if (10 : Int) < (ms.length : Int) then (10 : Int) else (ms.length : Int)) = (n10 : Int) := by split at hn10 <;> split <;> omega
            have em2 : (if (ms.length : Int) < 10 then (ms.length : Int) else (10 : Int)) = (n10 : Int) := by split at hn10 <;> split <;> omega
            have b3 : (0 : Int) ≤ (n10 : Int) := by omega
            have b4 : (n10 : Int) ≤ (cm : Int) := by omega
            have b5 : n10 ≤ cm := by omega
            have HN10 := Aside0.mk hn1
            clear hn10 HBO HA5 HBK HBK5 HB5 HB6 HAR HPK
            go_upto_block 2 with (fail)
            clear em1 em2
            go_cut [8] (fun v8 wx => ∃ (vw : Value) (gs' : List (List Nat)) (ws' : List Nat), Bo 1048576 w.heap.size w wx gb g (most z) vw gs' ws' ∧ gs'.flatten ++ ws' = gs.flatten ++ ms.take n10 ∧ OwnA wx w.heap.size v8 (gs.flatten ++ ms.take n10))
            case first =>
              have HA60 := Aside0.mk (show OwnA w6 w.heap.size (.slice Av N cv) (gs.flatten ++ ms.take 0) by rw [List.take_zero, List.append_nil]; exact HA6.out)
              go_wp2
              go_loopw [8, 80] (fun v8 v80 wr => ∃ (k : Nat) (vw : Value) (gs' : List (List Nat)) (ws' : List Nat), k ≤ n10 ∧ v80 = .int .i64 k ∧ Bo 1048576 w.heap.size w wr gb g (most z) vw gs' ws' ∧ gs'.flatten ++ ws' = gs.flatten ++ ms.take k ∧ OwnA wr w.heap.size v8 (gs.flatten ++ ms.take k) ∧ Own wr w5.heap.size (.slice Am ms.length cm) ms ∧ Apart (.slice Am ms.length cm) vw) (fun _ x _ => 10 - (intOf x).toNat)
              case atStart => exact ⟨0, _, gs, [], by omega, rfl, HBO6.out, by simp, HA60.out, HM.out, Apart.nil _ _ _⟩
              case round =>
                clear HBO6 HA6 HA60 HM
                obtain ⟨k, vw, gs', ws', hk, rfl, hbo, hfl, ha, hm, hap⟩ := hrel
                have HBO := Aside0.mk hbo
                have HFL := Aside0.mk hfl
                have HM := Aside0.mk hm
                have HAP := Aside0.mk hap
                obtain ⟨Aa, ca, hva⟩ := ha.slice
                subst hva
                obtain ⟨nn, hnn⟩ : ∃ nn, (gs.flatten ++ ms.take k).length = nn := ⟨_, rfl⟩
                have hnn2 : nn ≤ 100 := by
                  rw [← hnn, List.length_append, HN.out, List.length_take]
                  have h1 := HNN.out
                  have h2 := HPI.out.2.2
                  omega
                have hfl2 : gs'.flatten.length + ws'.length = nn := by
                  rw [← hnn, ← List.length_append, hfl]
                have HNV := Aside0.mk (And.intro hnn (And.intro hnn2 hfl2))
                rw [hnn] at ha ⊢
                have HA := Aside0.mk ha
                clear hbo hfl ha hm hap hnn hfl2
                by_cases hlt : k < n10
                · have q4 : decide ((k : Int) < (n10 : Int)) = true := decide_eq_true (by omega)
                  have hkm : k < ms.length := by omega
                  obtain ⟨gr, cr, hgr, _⟩ := HM.out.news (by omega)
                  injection hgr with hgr el ec
                  subst hgr
                  clear el ec
                  obtain ⟨m0, m1⟩ := HM.out.at_ hkm
                  have hr : ms[k] < 18446744073709551616 := HML.out.2 _ (List.getElem_mem hkm)
                  have htk : ms.take (k + 1) = ms.take k ++ [ms[k]] := List.take_succ_eq_append_getElem hkm
                  obtain ⟨r, hrr⟩ : ∃ r, ms[k] = r := ⟨_, rfl⟩
                  rw [hrr] at m0 m1 hr htk
                  have hw0 := below_alloc (Below.refl wr.heap.size wr) (.cells #[.int .i64 ((r % 4 + 1 : Nat) : Int), .int .u64 ((r / 4 : Nat) : Int)] 31)
                  have had := add_bo r (HBO.out.on hw0) hr (by have h1 := HNV.out.2.1; have h2 := HNV.out.2.2; unfold tot; omega) (by have h1 := HNV.out.2.1; have h2 := HNV.out.2.2; unfold tot; omega) (by omega)
                  obtain ⟨kd, hkd⟩ : ∃ kd : Int, ((r % 4 + 1 : Nat) : Int) = kd := ⟨_, rfl⟩
                  obtain ⟨nm, hnm⟩ : ∃ nm : Int, ((r / 4 : Nat) : Int) = nm := ⟨_, rfl⟩
                  have HRC := Aside0.mk (show [Value.int .i64 kd, .int .u64 nm] = rc r by unfold rc; rw [hkd, hnm])
                  rw [hkd] at m0 hw0 had
                  rw [hnm] at m1 hw0 had
                  have HTK := Aside0.mk htk
                  have HAD := Aside0.mk had
                  have HB7 := Aside0.mk (HBO.out.on hw0)
                  have HA7 := Aside0.mk (HA.out.below hw0)
                  have HM7 := Aside0.mk (HM.out.below hw0)
                  have HZ7 := Aside0.mk (blk_new wr (.cells #[.int .i64 kd, .int .u64 nm] 31))
                  have hvw : ∀ k, vw.ownBlock = some k → k < wr.heap.size := own_lt HBO.out.bk.row
                  have HVW := Aside0.mk (And.intro hvw (show 1048576 ≤ (1048576 : Int) by omega))
                  have b6 : (0 : Int) ≤ (k : Int) := by omega
                  have b7 : (k : Int) < (n10 : Int) := by omega
                  have HK := Aside0.mk (And.intro hlt hkm)
                  clear hrr htk hkd hnm hr had hw0 hvw HBO HA HM
                  go_upto_region 15 with (fail)
                  obtain ⟨zb, hzb⟩ : ∃ zb, wr.heap.size = zb := ⟨_, rfl⟩
                  rw [hzb] at HZ7 HVW ⊢
                  clear hzb m0 m1
                  change Code.wp _ _ _ _ (wr.alloc (.cells #[.int .i64 kd, .int .u64 nm] 31))
                  generalize wr.alloc (.cells #[.int .i64 kd, .int .u64 nm] 31) = w7 at HAD HB7 HA7 HM7 HZ7 ⊢
                  have z0 : w7.cell? ⟨zb, 0, none⟩ = some (.int .i64 kd) := (blk_cell HZ7.out 0).trans rfl
                  have z1 : w7.cell? ⟨zb, 1, none⟩ = some (.int .u64 nm) := (blk_cell HZ7.out 1).trans rfl
                  go_upto_region 17 with (go_at_call 43; (with_reducible refine HAD.out.mono ?_); rintro e w8 ⟨rfl, vw8, hl⟩; have HL := Aside0.mk hl; have HZ8 := Aside0.mk (hl.fr _ _ _ HZ7.out (by decide) (by decide) (blk_ne HZ7.out HB7.out.bk.blk (by decide)) (fun e => by have := HVW.out.1 _ e; omega)); have HA8 := Aside0.mk (HA7.out.fr hl.fr HB7.out.bk.blk HB7.out.bk.row); have HM8 := Aside0.mk (HM7.out.fr hl.fr HB7.out.bk.blk HAP.out); have HAP8 := Aside0.mk (HAP.out.moved HM7.out hl.moved); clear hl z0 z1)
                  have z0 : w8.cell? ⟨zb, 0, none⟩ = some (.int .i64 kd) := (blk_cell HZ8.out 0).trans rfl
                  have z1 : w8.cell? ⟨zb, 1, none⟩ = some (.int .u64 nm) := (blk_cell HZ8.out 1).trans rfl
                  have HA8' := Aside0.mk (show w8.ownsRow w.heap.size 36 2 (.slice Aa nn ca) nn (rcs (gs.flatten ++ ms.take k)) by have h := HA8.out; unfold OwnA at h; rw [HNV.out.1] at h; exact h)
                  obtain ⟨j0, hj0, hz0, hz1, hz2⟩ := info_parts info36
                  have HJ0 := Aside0.mk (And.intro hj0 (And.intro hz0 (And.intro hz1 hz2)))
                  have HSZ8 := Aside0.mk (show w.heap.size ≤ w8.heap.size from HL.out.bo.below.size)
                  clear hj0 hz0 hz1 hz2
                  go_wp2_with (at_builtin; refine wpList_append_lies _ (by rfl) _ _ 22 (by rfl) w.heap.size 36 j0 _ 2 16 Try.underlying22 HJ0.out.1 HJ0.out.2.1 HJ0.out.2.2.1 HJ0.out.2.2.2 rfl (by omega) (.slice Aa nn ca) nn (rcs (gs.flatten ++ ms.take k)) (by rfl) (HA8'.out.alloc _) ⟨w8.heap.size, 0, none⟩ 1 1 [.int .i64 kd, .int .u64 nm] (by rfl) (by rfl) (World.news_of_block (cs := #[.int .i64 kd, .int .u64 nm]) (t := 36) (fr := (0, 0)) (heap_alloc_new w8 _)) (by simp [Value.oneCell']) (by omega) (by have := HNV.out.2.1; unfold maxLen; omega) (by have := HNV.out.2.1; omega) (Nat.le_trans HSZ8.out (by simp)) (w8.heap.size + 1) (by simp) ?_; intro gg cap w9 hown hgrow hat hlt9; have HO9 := Aside0.mk hown; have HG9 := Aside0.mk hgrow; clear hown hgrow hat hlt9 z0 z1)
                  have hb9 : Bo 1048576 w.heap.size w w9 gb g (most z) vw8 (addG (most z) gs' ws' r) (addW (most z) ws' r) :=
                    (HL.out.bo.on (below_alloc (Below.refl _ _) (.cells #[.int .i64 kd, .int .u64 nm] 36))).grown (HA8.out.below (below_alloc (Below.refl _ _) (.cells #[.int .i64 kd, .int .u64 nm] 36))) (Nat.le_refl _) HG9.out
                  have hm9 : Own w9 w5.heap.size (.slice (some ⟨gr, 0, none⟩) ms.length cm) ms := own_grown_other (HM8.out.below (below_alloc (Below.refl _ _) (.cells #[.int .i64 kd, .int .u64 nm] 36))) (HA8.out.below (below_alloc (Below.refl _ _) (.cells #[.int .i64 kd, .int .u64 nm] 36))) (by decide) HG9.out
                  have ha9 : OwnA w9 w.heap.size (.slice (some ⟨gg, 0, none⟩) (nn + 1) cap) (gs.flatten ++ ms.take (k + 1)) := by
                    have h := HO9.out
                    have e : rcs [r] = [.int .i64 kd, .int .u64 nm] := by rw [HRC.out]; rfl
                    unfold OwnA
                    rw [HTK.out, ← List.append_assoc, List.length_append, HNV.out.1, rcs_append, e]
                    exact h
                  exact ⟨⟨k + 1, vw8, _, _, HK.out.1, by go_num, hb9, by rw [add_flat, HFL.out, HTK.out, List.append_assoc], ha9, hm9, HAP8.out⟩, by have h1 := HK.out.1; have h2 := HN10.out.2; simp [intOf]; omega⟩
                · have q4 : decide ((k : Int) < (n10 : Int)) = false := decide_eq_false (by omega)
                  obtain rfl : k = n10 := by omega
                  go_wp2
                  go_meet
                  exact ⟨vw, gs', ws', HBO.out, HFL.out, HA.out⟩
            case rest =>
              clear HBO6 HA6 HM
              obtain ⟨vw, gs', ws', hbo, hfl, ha⟩ := hcut
              obtain ⟨Aa, ca, hva⟩ := ha.slice
              subst hva
              obtain ⟨nn, hnn⟩ : ∃ nn, (gs.flatten ++ ms.take n10).length = nn := ⟨_, rfl⟩
              have hnn2 : nn ≤ 10 * (i + 1) := by
                rw [← hnn, List.length_append, HN.out, List.length_take]
                have h1 := HNN.out
                have h2 := HN10.out
                omega
              have hfl2 : gs'.flatten.length + ws'.length = nn := by rw [← hnn, ← List.length_append, hfl]
              rw [hnn] at ha ⊢
              have HFG := Aside0.mk (flu_flat gs' ws')
              have HNV := Aside0.mk (And.intro hnn (And.intro hnn2 hfl2))
              have h5 := HPI.out.2.2
              have HFB := Aside0.mk (flush_bo hbo (by unfold tot; omega) (by unfold tot; omega) (by omega) (by have h1 := hbo.room; have h2 := hbo.m400; omega))
              have HBO := Aside0.mk hbo
              have HA := Aside0.mk ha
              have HFL := Aside0.mk hfl
              have hno : ¬ 9223372036854775807 < 1 + cj.size := by omega
              obtain ⟨y, hy⟩ : ∃ y, (⟨#[63]⟩ : ByteArray) ++ cj = y := ⟨_, rfl⟩
              have HY := Aside0.mk hy
              have HYS := Aside0.mk (show bl y = 63 :: bl cj by rw [← hy, bl_append]; rfl)
              have HCS := Aside0.mk hcs
              clear hbo hfl ha hnn hnn2 hfl2 hcs
              go_wp2_with (first
                | (go_at_call 44; (with_reducible refine HFB.out.mono ?_); rintro e w7 ⟨rfl, vw7, hl⟩; have HL := Aside0.mk hl; (obtain ⟨safe7, hs7⟩ := hl.bo.sto); have HS7 := Aside0.mk hs7; have HA7 := Aside0.mk (HA.out.fr hl.fr HBO.out.bk.blk HBO.out.bk.row); have hbk := hl.bo.bk; rw [HFG.out, HFL.out, HNV.out.1] at hbk; have HBK := Aside0.mk hbk; have HRM := Aside0.mk (log_room hl.bo.good (by rw [HFG.out, HFL.out, HNV.out.1]; have := HNV.out.2.1; omega) HYS.out HCS.out); clear hl hbk hs7)
                | (go_at_call 41; (with_reducible refine (sure_calls _ gb g _ _ _ _ _ _ HBK.out).mono ?_); rintro e w' ⟨rfl, rfl⟩)
                | (go_at_call 25; (with_reducible refine (HCC.out _).mono ?_); rintro e w' ⟨rfl, rfl⟩)
                | (go_at_call 45; (with_reducible refine (append_free w.heap.size g _ safe7 y w7 HS7.out HRM.out.1 (by omega)).mono ?_); rintro e w8 ⟨rfl, hs8, hb8, ht8⟩; have HS8 := Aside0.mk hs8; have HB8 := Aside0.mk hb8; have HT8 := Aside0.mk ht8; clear hs8 hb8 ht8))
              refine ⟨⟨i + 1, fluG gs' ws', bl y, by omega, by go_num, ⟨?_, ⟨safe7, ?_⟩, HL.out.bo.good, ?_, ?_, fun b hb => bl_lt y b hb, ?_, HL.out.bo.below.trans HB8.out⟩⟩, by simp [intOf]; omega⟩
              · rw [HFG.out, HFL.out]
                have h := HA7.out.tm HT8.out
                exact h
              · rw [ints_append, ← bytesOf_bl]
                exact HS8.out
              · rw [HYS.out]
                exact openL_junk 63 _ (by decide)
              · rw [bl_length]
                exact HRM.out.2.2
              · rw [HFG.out, HFL.out, HNV.out.1]
                exact HNV.out.2.1
          · have q3 : decide ((i : Int) < 5) = false := decide_eq_false (by omega)
            go_wp2
            go_meet
            exact ⟨gs, jk, HEND.out⟩
        · have q2 : decide ((i : Int) < (zs.length : Int)) = false := decide_eq_false (by omega)
          go_wp2
          go_meet
          exact ⟨gs, jk, HEND.out⟩
      · have q1 : decide ((i : Int) < (ps.length : Int)) = false := decide_eq_false (by omega)
        go_wp2
        go_meet
        exact ⟨gs, jk, HEND.out⟩
  case rest =>
    clear HB0
    obtain ⟨gs, jk, hB⟩ := hcut
    obtain ⟨Av, cv, hv⟩ := hB.all.slice
    subst hv
    obtain ⟨safe, hs⟩ := hB.sto
    have hfew := hB.few
    have hlt : ∀ b ∈ logF 0 gs ++ jk, b < 256 := fun b hb => by
      rcases List.mem_append.1 hb with h | h
      · exact logF_lt gs 0 b h
      · exact hB.jb b h
    have hW := whole_log gs hB.good (by omega) (strOfNums ((logF 0 gs ++ jk).map Int.ofNat)) jk (text_bl _ hlt) hB.stop (by have := hB.jl; omega)
    have HRD := Aside0.mk (read_calls _ gs (logE gs) hW wc)
    have hle : logE gs gs.length ≤ ((logF 0 gs ++ jk).map Int.ofNat).length := by rw [logE_all, List.length_map, List.length_append]; omega
    have HS := Aside0.mk hs
    have HA := Aside0.mk hB.all
    have HBL := Aside0.mk hB.below
    have HFW := Aside0.mk (show gs.flatten.length ≤ 1000 by omega)
    obtain ⟨xs, hxs⟩ : ∃ xs, (logF 0 gs ++ jk).map Int.ofNat = xs := ⟨_, rfl⟩
    rw [hxs] at HRD HS hle
    generalize logE gs gs.length = en at HRD hle
    generalize gs.flatten = fl at HRD HA HFW ⊢
    have q1 : decide ((en : Int) ≤ (xs.length : Int)) = true := decide_eq_true (by omega)
    have q2 : decide (en ≤ xs.length) = true := decide_eq_true hle
    clear hB hs hfew hlt hW hxs hle
    go_wp2_with (first
      | (go_at_call 47; (with_reducible refine (bytes_c w.heap.size g xs safe _ HS.out).mono ?_); rintro e w' ⟨rfl, rfl⟩)
      | (go_at_call 46; (with_reducible refine HRD.out.mono ?_); rintro e w1 ⟨v, rfl, ho, hb⟩; have HO := Aside0.mk ho; have HB1 := Aside0.mk (below_then HBL.out HBL.out.size hb); have HA1 := Aside0.mk (HA.out.below hb); have HS1 := Aside0.mk (HS.out.below hb); clear ho hb)
      | (go_at_call 20; (with_reducible refine (are_calls _ _ _ _ _ fl HO.out HA1.out HFW.out).mono ?_); rintro e w2 ⟨rfl, hb⟩; have HB2 := Aside0.mk (below_then HB1.out HB1.out.size hb); have HS2 := Aside0.mk (HS1.out.below hb); clear hb)
      | (go_at_call 48; (with_reducible refine (len_c w.heap.size g xs safe _ HS2.out).mono ?_); rintro e w' ⟨rfl, rfl⟩))
    go_ret
    exact ⟨rfl, HB2.out⟩
end Go.Proofs.Ythlllcmffgdcmaa.Book

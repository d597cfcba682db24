/- A program that may be: the walk. -/
import Derived.Test.YthlllcmffgdcmabZSome0
section
namespace Go.Proofs.Ythlllcmffgdcmab.Code
open Go.RowKit Go.Proofs.YthlllcmffgdcmabW.PrintWords Go.Proofs.YthlllcmffgdcmabW.PrintLast Go.Proofs.YthlllcmffgdcmabW.PrintMore
open Go.Proofs.Ythlllcmffgdcmab.PCodeChecks
set_option linter.unusedVariables false
set_option linter.unusedSimpArgs false
def some5_T : Bool × List (List Nat × List Nat) := (true, [([], []), ([0], [0]), ([], []), ([2], [2]), ([], []), ([3, 4], [3, 4]), ([5], [5]), ([6], [6]), ([7], [7]), ([1, 8, 7], [1, 8]), ([0, 1, 2, 3, 4, 5, 6, 7, 8, 9], []), ([10, 9, 9, 0, 1, 2, 3, 4, 5, 6, 7, 8, 9], [9, 10])])
theorem some5_tab : rtab .any (opsOf Try.f51 5) = some5_T := by kernel_rfl
def some10_T : Bool × List (List Nat × List Nat) := (true, [([], []), ([0], [0]), ([1], [1]), ([], []), ([3], [3]), ([], []), ([5], [5]), ([6], [6]), ([4, 7, 2], [4, 7]), ([], []), ([9], [9]), ([10, 8], [10]), ([2, 8, 11], [2, 8, 11]), ([], []), ([13, 12, 11, 0, 1, 2, 3, 4, 5, 6, 7, 8, 9, 10, 11, 12, 13], [12, 13])])
theorem some10_tab : rtab .any (opsOf Try.f51 10) = some10_T := by kernel_rfl
set_option maxHeartbeats 8000000 in
set_option maxRecDepth 100000 in
theorem some_calls (A0 A1 A3 : Option Addr) (c0 c1 c3 : Nat) (l0 : List (List S128)) (l1 : List Int) (l3 : List S134) (locks : Int) (w : World)
    (hr0 : Kd.C (Kd.slice 128 k128) w A0 l0.length l0) (hc0 : l0.length ≤ c0) (hr1 : Kd.C (Kd.int .i64) w A1 l1.length l1) (hc1 : l1.length ≤ c1) (hr3 : Kd.C k134 w A3 l3.length l3) (hc3 : l3.length ≤ c3) :
    Calls Try.prog 51 #[.agg #[.slice A0 l0.length c0, .slice A1 l1.length c1, .int .i64 locks, .slice A3 l3.length c3]] w fun e w' => ∃ v0 v1 v3 : Value, ∃ L0 L1 lk L3, e = .returned (.agg #[v0, v1, .int .i64 lk, v3]) ∧
      Kd.S (Kd.slice 128 k128) 125 w' w.heap.size (fun _ => True) v0 L0 ∧ Kd.R (Kd.int .i64) 3 w' w.heap.size (fun _ => True) v1 L1 ∧ Kd.R k134 134 w' w.heap.size (fun _ => True) v3 L3 ∧ Below w.heap.size w w' ∧ Ok L0 L1 lk L3 := by
  have HR0 := Aside0.mk hr0
  have HR1 := Aside0.mk hr1
  have HR3 := Aside0.mk hr3
  have HC0 := Aside0.mk hc0
  clear hr0 hr1 hr3 hc0 hc1 hc3
  have HB := Aside0.mk (sW_below w #[.slice A0 l0.length c0, .slice A1 l1.length c1, .int .i64 locks, .slice A3 l3.length c3])
  have BP := Aside0.mk (sW_p w #[.slice A0 l0.length c0, .slice A1 l1.length c1, .int .i64 locks, .slice A3 l3.length c3])
  have BR := Aside0.mk (sW_r w #[.slice A0 l0.length c0, .slice A1 l1.length c1, .int .i64 locks, .slice A3 l3.length c3])
  obtain ⟨lk, hlk⟩ : ∃ r, modF locks 4 = r := ⟨_, rfl⟩
  have HL := Aside0.mk hlk
  clear hlk
  go_enter Try.func51, Try.ntmps51
  go_upto_region 1 with (fail)
  change Code.wp _ _ _ _ (sW w #[.slice A0 l0.length c0, .slice A1 l1.length c1, .int .i64 locks, .slice A3 l3.length c3])
  generalize sW w #[.slice A0 l0.length c0, .slice A1 l1.length c1, .int .i64 locks, .slice A3 l3.length c3] = w2 at HB BP BR ⊢
  have p2 : w2.cell? ⟨w.heap.size, 2, none⟩ = some (.int .i64 locks) := (blk_cell BP.out 2).trans rfl
  go_cut [3] (fun v3 wx => ∃ go, v3 = .pointer (some ⟨go, 0, none⟩) ∧ Aside0 (wx.heap[w.heap.size]? = some (.cells #[.slice A0 l0.length c0, .slice A1 l1.length c1, .int .i64 locks, .slice A3 l3.length c3] 112 (0, 0))) ∧ Aside0 (wx.heap[w.heap.size + 1]? = some (.cells #[.slice none 0 0, .slice none 0 0, .int .i64 0, .slice none 0 0] 112 (0, 0))) ∧ Aside0 (wx.heap[go]? = some (.cells #[.slice none 0 0, .slice none 0 0, .int .i64 lk, .slice none 0 0] 112 (0, 0))) ∧ Aside0 (go ≠ w.heap.size ∧ go ≠ w.heap.size + 1 ∧ w.heap.size ≤ go) ∧ Aside0 (Below w.heap.size w wx))
  case first =>
    go_wp2_with (first
      | (go_at_call 54; (with_reducible refine (mod_calls locks 4 _ HL.out _).mono ?_); rintro e w3 ⟨rfl, hb⟩; clear p2; have BP2 := Aside0.mk (blk_below BP.out hb); clear BP; have BP := BP2; clear BP2; have BR2 := Aside0.mk (blk_below BR.out hb); clear BR; have BR := BR2; clear BR2; have HB2 := Aside0.mk (below_then HB.out HB.out.size hb); clear HB hb; have HB := HB2; clear HB2)
      | ((with_reducible refine gate_dst (N := 3) rfl ?_); refine box_event ?hg (N := 3) ?hd (cs := #[.slice none 0 0, .slice none 0 0, .int .i64 0, .slice none 0 0]) (t := 112) ?hr ?_; (case hd => rfl); (case hg => rfl); (case hr => first | (go_simp; done) | (go_simp; rfl)); intro go hg w4 hbox hb; have BO := Aside0.mk hbox; have GO : Aside0 (go ≠ w.heap.size ∧ go ≠ w.heap.size + 1 ∧ w.heap.size ≤ go) := ⟨by have h1 := blk_lt BP.out; have h2 := blk_lt BR.out; omega⟩; clear hg hbox; have BP2 := Aside0.mk (blk_below BP.out hb); clear BP; have BP := BP2; clear BP2; have BR2 := Aside0.mk (blk_below BR.out hb); clear BR; have BR := BR2; clear BR2; have HB2 := Aside0.mk (below_then HB.out HB.out.size hb); clear HB hb; have HB := HB2; clear HB2; have o0 : w4.cell? ⟨go, 0, none⟩ = some (.slice none 0 0) := (blk_cell BO.out 0).trans rfl; have f0 := blk_frozen BO.out 0; have o1 : w4.cell? ⟨go, 1, none⟩ = some (.slice none 0 0) := (blk_cell BO.out 1).trans rfl; have f1 := blk_frozen BO.out 1; have o2 : w4.cell? ⟨go, 2, none⟩ = some (.int .i64 0) := (blk_cell BO.out 2).trans rfl; have f2 := blk_frozen BO.out 2; have o3 : w4.cell? ⟨go, 3, none⟩ = some (.slice none 0 0) := (blk_cell BO.out 3).trans rfl; have f3 := blk_frozen BO.out 3))
    go_meet
    exact ⟨go, rfl, ⟨far4 BP.out GO.out.1.symm _ _ _ _⟩, ⟨far4 BR.out GO.out.2.1.symm _ _ _ _⟩, ⟨four_set BO.out _ _ _ _⟩, GO, ⟨four_below HB.out GO.out.2.2 _ _ _ _⟩⟩
  case rest =>
    obtain ⟨go, rfl, BP2, BR2, BO, GO, HB2⟩ := hcut
    clear BP BR HB p2
    have BP := BP2
    have BR := BR2
    have HB := HB2
    clear BP2 BR2 HB2
    go_upto_block 0 with (fail)
    go_cut [] (fun wx => ∃ v1 L1, L1.length ≤ 4 ∧ Aside0 (wx.heap[w.heap.size]? = some (.cells #[.slice A0 l0.length c0, .slice A1 l1.length c1, .int .i64 locks, .slice A3 l3.length c3] 112 (0, 0))) ∧ Aside0 (wx.heap[w.heap.size + 1]? = some (.cells #[.slice none 0 0, .slice none 0 0, .int .i64 0, .slice none 0 0] 112 (0, 0))) ∧ Aside0 (wx.heap[go]? = some (.cells #[.slice none 0 0, v1, .int .i64 lk, .slice none 0 0] 112 (0, 0))) ∧ Aside0 (Below w.heap.size w wx) ∧ Aside0 (Kd.R (Kd.int .i64) 3 wx w.heap.size (fun _ => True) v1 L1) ∧ Aside0 (∀ x ∈ L1, 0 ≤ x ∧ x < 4))
    case first =>
      go_wp2
      go_loopw [4] (fun v4 wr => ∃ (i : Nat) (v1 : Value) (L1 : List Int), v4 = .int .i64 i ∧ i ≤ 4 ∧ i ≤ l1.length ∧ L1.length = i ∧ Aside0 (wr.heap[w.heap.size]? = some (.cells #[.slice A0 l0.length c0, .slice A1 l1.length c1, .int .i64 locks, .slice A3 l3.length c3] 112 (0, 0))) ∧ Aside0 (wr.heap[w.heap.size + 1]? = some (.cells #[.slice none 0 0, .slice none 0 0, .int .i64 0, .slice none 0 0] 112 (0, 0))) ∧ Aside0 (wr.heap[go]? = some (.cells #[.slice none 0 0, v1, .int .i64 lk, .slice none 0 0] 112 (0, 0))) ∧ Aside0 (Below w.heap.size w wr) ∧ Aside0 (Kd.R (Kd.int .i64) 3 wr w.heap.size (fun _ => True) v1 L1) ∧ Aside0 (∀ x ∈ L1, 0 ≤ x ∧ x < 4)) (fun v _ => 4 - (intOf v).toNat)
      case atStart => exact ⟨0, .slice none 0 0, [], rfl, by omega, by omega, rfl, BP, BR, BO, HB, ⟨Kd.R_nil _ _ _ _ _⟩, ⟨fun x h => absurd h (by simp)⟩⟩
      case round =>
        obtain ⟨i, v1, L1, rfl, hi, hil, hll, BP2, BR2, BO2, HB2, HO, HIN⟩ := hrel
        have HLL := Aside0.mk hll
        clear hll
        clear BP BR BO HB
        have BP := BP2
        have BR := BR2
        have BO := BO2
        have HB := HB2
        clear BP2 BR2 BO2 HB2
        have p1 : wr.cell? ⟨w.heap.size, 1, none⟩ = some (.slice A1 l1.length c1) := (blk_cell BP.out 1).trans rfl
        by_cases h1 : l1.length ≤ i
        · have h2 : ¬ (i : Int) < l1.length := by omega
          go_wp2
          go_meet
          exact ⟨v1, L1, by have := HLL.out; omega, BP, BR, BO, HB, HO, HIN⟩
        by_cases h2 : 4 ≤ i
        · have h3 : (i : Int) < l1.length := by omega
          have h4 : ¬ (i : Int) < 4 := by omega
          go_wp2
          go_meet
          exact ⟨v1, L1, by have := HLL.out; omega, BP, BR, BO, HB, HO, HIN⟩
        obtain ⟨Av, cv, rfl⟩ := Kd.R_slice HO.out
        obtain ⟨ad, rfl, hx⟩ := Kd.at_int HR1.out (i : Int) (by omega) (by omega)
        obtain ⟨x, hxx⟩ : ∃ x, rd l1 (i : Int) = x := ⟨_, rfl⟩
        rw [hxx] at hx
        obtain ⟨y, hm⟩ : ∃ y, modF x 4 = y := ⟨_, rfl⟩
        have HM := Aside0.mk hm
        have HX := Aside0.mk (show w.cell? (ad.add i) = some (.int .i64 x) from hx)
        clear hm hxx hx
        have h3 : (i : Int) < l1.length := by omega
        have h4 : (i : Int) < 4 := by omega
        go_upto_region 5 with (fail)
        refine wp_region_noPanic ?_
        refine start_ (n := 12) (S := (fun w' => (w'.cell? ⟨go, 1, none⟩ = some (.slice Av L1.length cv) ∧ w'.frozen? ⟨go, 1, none⟩ = false) ∧ w'.cell? ⟨w.heap.size, 1, none⟩ = some (.slice (some ad) l1.length c1) ∧ w'.cell? (ad.add i) = some (.int .i64 x))) (ds := [11]) #[false, false, false, false, false, false, false, false, false, false, false, false] (by kernel_rfl) rfl rfl (by (try dsimp only); first | exact ⟨⟨(blk_cell BO.out 1).trans rfl, blk_frozen BO.out 1⟩, (blk_cell BP.out 1).trans rfl, pw_cell_below HB.out HX.out⟩ | exact ⟨⟨(blk_cell (blk_alloc BO.out _) 1).trans rfl, blk_frozen (blk_alloc BO.out _) 1⟩, (blk_cell (blk_alloc BP.out _) 1).trans rfl, pw_cell_below (below_alloc HB.out _) HX.out⟩ | exact ⟨⟨(blk_cell (blk_drew BO.out) 1).trans rfl, blk_frozen (blk_drew BO.out) 1⟩, (blk_cell (blk_drew BP.out) 1).trans rfl, pw_cell_below HB.out.drew HX.out⟩) (fun hHeld => ?_)
        refine with_tab some5_tab (fun HT_ => ?_)
        have BP2 := Aside0.mk (blk_drew BP.out)
        clear BP
        have BP := BP2
        clear BP2
        have BR2 := Aside0.mk (blk_drew BR.out)
        clear BR
        have BR := BR2
        clear BR2
        have BO2 := Aside0.mk (blk_drew BO.out)
        clear BO
        have BO := BO2
        clear BO2
        have HO2 := Aside0.mk (Kd.R_drew HO.out)
        clear HO
        have HO := HO2
        clear HO2
        have HB2 := Aside0.mk (HB.out.drew)
        clear HB
        have HB := HB2
        clear HB2
        generalize wr.drew = w0d at BP BR BO HO HB hHeld ⊢
        refine take_ (i := 0) (N := some 29) (v := ?_) (a' := ?_) #[true, false, false, false, false, false, false, false, false, false, false, false] rfl rfl (take_of HT_.out (by kernel_rfl)) (fun _ _ _ h => h) (Or.inl ⟨by first | rfl | (go_simp; done), ?_⟩) hHeld ?_ ?_
        rotate_left
        · rintro w' ⟨s0, s1, s2⟩
          go_simp
          try (with_reducible rfl)
        rotate_left
        · simp only [Act.put, List.setIfInBounds_toArray, List.set_cons_zero, List.set_cons_succ]
          rfl
        refine take_ (i := 1) (N := some 30) (v := ?_) (a' := ?_) #[true, true, false, false, false, false, false, false, false, false, false, false] rfl rfl (take_of HT_.out (by kernel_rfl)) (fun _ _ _ h => h) (Or.inl ⟨by first | rfl | (go_simp; done), ?_⟩) hHeld ?_ ?_
        rotate_left
        · rintro w' ⟨s0, s1, s2⟩
          go_simp
          try (with_reducible rfl)
        rotate_left
        · simp only [Act.put, List.setIfInBounds_toArray, List.set_cons_zero, List.set_cons_succ]
          rfl
        refine take_ (i := 2) (N := some 31) (v := ?_) (a' := ?_) #[true, true, true, false, false, false, false, false, false, false, false, false] rfl rfl (take_of HT_.out (by kernel_rfl)) (fun _ _ _ h => h) (Or.inl ⟨by first | rfl | (go_simp; done), ?_⟩) hHeld ?_ ?_
        rotate_left
        · rintro w' ⟨s0, s1, s2⟩
          go_simp
          try (with_reducible rfl)
        rotate_left
        · simp only [Act.put, List.setIfInBounds_toArray, List.set_cons_zero, List.set_cons_succ]
          rfl
        refine take_ (i := 3) (N := some 32) (v := ?_) (a' := ?_) #[true, true, true, true, false, false, false, false, false, false, false, false] rfl rfl (take_of HT_.out (by kernel_rfl)) (fun _ _ _ h => h) (Or.inl ⟨by first | rfl | (go_simp; done), ?_⟩) hHeld ?_ ?_
        rotate_left
        · rintro w' ⟨s0, s1, s2⟩
          go_simp
          try (with_reducible rfl)
        rotate_left
        · simp only [Act.put, List.setIfInBounds_toArray, List.set_cons_zero, List.set_cons_succ]
          rfl
        refine take_ (i := 4) (N := some 33) (v := ?_) (a' := ?_) #[true, true, true, true, true, false, false, false, false, false, false, false] rfl rfl (take_of HT_.out (by kernel_rfl)) (fun _ _ _ h => h) (Or.inl ⟨by first | rfl | (go_simp; done), ?_⟩) hHeld ?_ ?_
        rotate_left
        · rintro w' ⟨s0, s1, s2⟩
          go_simp
          try (with_reducible rfl)
        rotate_left
        · simp only [Act.put, List.setIfInBounds_toArray, List.set_cons_zero, List.set_cons_succ]
          rfl
        refine take_ (i := 5) (N := some 34) (v := ?_) (a' := ?_) #[true, true, true, true, true, true, false, false, false, false, false, false] rfl rfl (take_of HT_.out (by kernel_rfl)) (fun _ _ _ h => h) (Or.inl ⟨by first | rfl | (go_simp; done), ?_⟩) hHeld ?_ ?_
        rotate_left
        · rintro w' ⟨s0, s1, s2⟩
          go_simp
          try (with_reducible rfl)
        rotate_left
        · simp only [Act.put, List.setIfInBounds_toArray, List.set_cons_zero, List.set_cons_succ]
          rfl
        refine take_ (i := 6) (N := some 35) (v := ?_) (a' := ?_) #[true, true, true, true, true, true, true, false, false, false, false, false] rfl rfl (take_of HT_.out (by kernel_rfl)) (fun _ _ _ h => h) (Or.inl ⟨by first | rfl | (go_simp; done), ?_⟩) hHeld ?_ ?_
        rotate_left
        · rintro w' ⟨s0, s1, s2⟩
          go_simp
          try (with_reducible rfl)
        rotate_left
        · simp only [Act.put, List.setIfInBounds_toArray, List.set_cons_zero, List.set_cons_succ]
          rfl
        refine one_ (i := 7) (N := some 36) #[true, true, true, true, true, true, true, true, false, false, false, false] rfl rfl (one_of HT_.out (by kernel_rfl)) (by decide) (fun K hK => ?_)
        go_simp
        (with_reducible refine (mod_calls x 4 _ HM.out _).mono ?_)
        rintro e wb ⟨rfl, hb⟩
        have BP2 := Aside0.mk (blk_below BP.out hb)
        clear BP
        have BP := BP2
        clear BP2
        have BR2 := Aside0.mk (blk_below BR.out hb)
        clear BR
        have BR := BR2
        clear BR2
        have BO2 := Aside0.mk (blk_below BO.out hb)
        clear BO
        have BO := BO2
        clear BO2
        have HO2 := Aside0.mk (Kd.R_below HO.out hb)
        clear HO
        have HO := HO2
        clear HO2
        have HB2 := Aside0.mk (below_then HB.out HB.out.size hb)
        clear HB hb
        have HB := HB2
        clear HB2
        refine hK.out _ _ (by (try dsimp only); first | exact ⟨⟨(blk_cell BO.out 1).trans rfl, blk_frozen BO.out 1⟩, (blk_cell BP.out 1).trans rfl, pw_cell_below HB.out HX.out⟩ | exact ⟨⟨(blk_cell (blk_alloc BO.out _) 1).trans rfl, blk_frozen (blk_alloc BO.out _) 1⟩, (blk_cell (blk_alloc BP.out _) 1).trans rfl, pw_cell_below (below_alloc HB.out _) HX.out⟩ | exact ⟨⟨(blk_cell (blk_drew BO.out) 1).trans rfl, blk_frozen (blk_drew BO.out) 1⟩, (blk_cell (blk_drew BP.out) 1).trans rfl, pw_cell_below HB.out.drew HX.out⟩) (fun hHeld2 => ?_)
        clear hK K hHeld
        have hHeld := hHeld2
        clear hHeld2
        try simp only [Act.put, List.setIfInBounds_toArray, List.set_cons_zero, List.set_cons_succ]
        refine one_ (i := 8) (N := some 37) #[true, true, true, true, true, true, true, true, true, false, false, false] rfl rfl (one_of HT_.out (by kernel_rfl)) (by decide) (fun K hK => ?_)
        refine value_ (w1 := wb.alloc (.cells #[.int .i64 y] 3)) (v := .slice (some ⟨wb.heap.size, 0, none⟩) 1 1) (by rfl) rfl (by go_simp) ?_
        refine hK.out _ _ (by (try dsimp only); first | exact ⟨⟨(blk_cell BO.out 1).trans rfl, blk_frozen BO.out 1⟩, (blk_cell BP.out 1).trans rfl, pw_cell_below HB.out HX.out⟩ | exact ⟨⟨(blk_cell (blk_alloc BO.out _) 1).trans rfl, blk_frozen (blk_alloc BO.out _) 1⟩, (blk_cell (blk_alloc BP.out _) 1).trans rfl, pw_cell_below (below_alloc HB.out _) HX.out⟩ | exact ⟨⟨(blk_cell (blk_drew BO.out) 1).trans rfl, blk_frozen (blk_drew BO.out) 1⟩, (blk_cell (blk_drew BP.out) 1).trans rfl, pw_cell_below HB.out.drew HX.out⟩) (fun hHeld2 => ?_)
        clear hK K hHeld
        have hHeld := hHeld2
        clear hHeld2
        try simp only [Act.put, List.setIfInBounds_toArray, List.set_cons_zero, List.set_cons_succ]
        refine one_ (i := 9) (N := some 38) #[true, true, true, true, true, true, true, true, true, true, false, false] rfl rfl (one_of HT_.out (by kernel_rfl)) (by decide) (fun K hK => ?_)
        refine Kd.R_append_step (Kd.int .i64) (w0 := w) w.heap.size (by rfl) (.tmp 30) (.tmp 37) 43 3 (.int .i64 0) 8 rfl Try.underlying43 info3 rfl (by decide) (by omega) (.slice Av L1.length cv) L1 y [.int .i64 y] (fun _ => True) (fun _ => False) rfl rfl rfl (fun _ hk => hk.elim) (fun _ _ => trivial) HO.out HB.out HB.out.size (by have := HLL.out; omega) ?_
        intro v2 w5 ho hb5 hg hat
        have BP2 := Aside0.mk ((hg.block _ (blk_lt BP.out) (Kd.R_ne HO.out BP.out (by decide))).trans BP.out)
        clear BP
        have BP := BP2
        clear BP2
        have BR2 := Aside0.mk ((hg.block _ (blk_lt BR.out) (Kd.R_ne HO.out BR.out (by decide))).trans BR.out)
        clear BR
        have BR := BR2
        clear BR2
        have BO2 := Aside0.mk ((hg.block _ (blk_lt BO.out) (Kd.R_ne HO.out BO.out (by decide))).trans BO.out)
        clear BO
        have BO := BO2
        clear BO2
        clear HO HB hat hg
        obtain ⟨L2, hL2⟩ : ∃ L2, L1 ++ [y] = L2 := ⟨_, rfl⟩
        rw [hL2] at ho
        have HLL2 := Aside0.mk (show L2.length = i + 1 by rw [← hL2, List.length_append, HLL.out]; rfl)
        have HIN2 := Aside0.mk (show ∀ z ∈ L2, 0 ≤ z ∧ z < 4 by rw [← hL2]; intro z hz; rcases List.mem_append.1 hz with h | h; exact HIN.out z h; rw [List.mem_singleton.1 h, ← HM.out]; exact modF_in (by decide) (by decide))
        clear hL2
        obtain ⟨Av2, cv2, rfl⟩ := Kd.R_slice ho
        have HO := Aside0.mk ho
        have HB := Aside0.mk hb5
        clear ho hb5
        refine hK.out _ _ (by (try dsimp only); first | exact ⟨⟨(blk_cell BO.out 1).trans rfl, blk_frozen BO.out 1⟩, (blk_cell BP.out 1).trans rfl, pw_cell_below HB.out HX.out⟩ | exact ⟨⟨(blk_cell (blk_alloc BO.out _) 1).trans rfl, blk_frozen (blk_alloc BO.out _) 1⟩, (blk_cell (blk_alloc BP.out _) 1).trans rfl, pw_cell_below (below_alloc HB.out _) HX.out⟩ | exact ⟨⟨(blk_cell (blk_drew BO.out) 1).trans rfl, blk_frozen (blk_drew BO.out) 1⟩, (blk_cell (blk_drew BP.out) 1).trans rfl, pw_cell_below HB.out.drew HX.out⟩) (fun hHeld2 => ?_)
        clear hK K hHeld
        have hHeld := hHeld2
        clear hHeld2
        try simp only [Act.put, List.setIfInBounds_toArray, List.set_cons_zero, List.set_cons_succ]
        refine take_ (i := 10) (N := some 39) (v := ?_) (a' := ?_) #[true, true, true, true, true, true, true, true, true, true, true, false] rfl rfl (take_of HT_.out (by kernel_rfl)) (fun _ _ _ h => h) (Or.inl ⟨by first | rfl | (go_simp; done), ?_⟩) hHeld ?_ ?_
        rotate_left
        · rintro w' ⟨s0, s1, s2⟩
          go_simp
          try (with_reducible rfl)
        rotate_left
        · simp only [Act.put, List.setIfInBounds_toArray, List.set_cons_zero, List.set_cons_succ]
          rfl
        refine last_ (i := 11) (N := none) #[true, true, true, true, true, true, true, true, true, true, true, true] rfl rfl (one_of HT_.out (by kernel_rfl)) (by decide) (fun K hK => ?_)
        have o1 : w5.cell? ⟨go, 1, none⟩ = some (.slice Av L1.length cv) := (blk_cell BO.out 1).trans rfl
        have f1 := blk_frozen BO.out 1
        go_simp
        refine hK.out _ _ ?_
        clear hK K hHeld
        try simp only [Act.put, List.setIfInBounds_toArray, List.set_cons_zero, List.set_cons_succ]
        refine done_ (done_of HT_.out (by kernel_rfl)) ?_
        have BP2 := Aside0.mk (blk_far BP.out (p := ⟨go, 1, none⟩) GO.out.1.symm (.slice Av2 L2.length cv2))
        have BR2 := Aside0.mk (blk_far BR.out (p := ⟨go, 1, none⟩) GO.out.2.1.symm (.slice Av2 L2.length cv2))
        have BO2 : Aside0 ((w5.setCell ⟨go, 1, none⟩ (.slice Av2 L2.length cv2)).heap[go]? = some (.cells #[.slice none 0 0, .slice Av2 L2.length cv2, .int .i64 lk, .slice none 0 0] 112 (0, 0))) := ⟨by simpa using blk_set BO.out 1 (.slice Av2 L2.length cv2)⟩
        have HO2 := Aside0.mk (Kd.R_set HO.out BO.out (by decide) 1 (.slice Av2 L2.length cv2))
        have HB2 := Aside0.mk (HB.out.setCell GO.out.2.2 (.slice Av2 L2.length cv2) (p := ⟨go, 1, none⟩))
        clear BP BR BO HO HB
        have BP := BP2
        have BR := BR2
        have BO := BO2
        have HO := HO2
        have HB := HB2
        clear BP2 BR2 BO2 HO2 HB2
        generalize (w5.setCell ⟨go, 1, none⟩ (.slice Av2 L2.length cv2)) = w6 at BP BR BO HO HB ⊢
        refine NoPanic.normal ?_
        go_wp2
        refine ⟨⟨i + 1, _, L2, by simp, by omega, by omega, HLL2.out, BP, BR, BO, HB, HO, HIN2⟩, by simp [intOf]; omega⟩
    case rest =>
      clear BP BR BO HB
      obtain ⟨v1, L1, hl1, BP, BR, BO, HB, HO, HIN⟩ := hcut
      have HL1 := Aside0.mk hl1
      obtain ⟨Av, cv, rfl⟩ := Kd.R_slice HO.out
      clear hl1
      have HS : Aside0 (SL w wc #[.slice A0 l0.length c0, .slice A1 l1.length c1, .int .i64 locks, .slice A3 l3.length c3] lk go (fun _ => True) (fun _ => True) (.slice none 0 0) (.slice Av L1.length cv) (.slice none 0 0) [] L1 []) := ⟨⟨BP.out, BR.out, BO.out, GO.out, HB.out, Kd.S_nil _ _ _ _ _, HO.out, Kd.R_nil _ _ _ _ _⟩⟩
      clear BP BR BO HB HO GO
      go_upto_block 2 with (fail)
      go_cut [] (fun wx => ∃ v3 L3, L3.length ≤ 8 ∧ Aside0 (SL w wx #[.slice A0 l0.length c0, .slice A1 l1.length c1, .int .i64 locks, .slice A3 l3.length c3] lk go (fun _ => True) (fun _ => True) (.slice none 0 0) (.slice Av L1.length cv) v3 [] L1 L3) ∧ Aside0 (∀ z ∈ L3, okC L1.length z))
      case first =>
        go_wp2
        go_loopw [5] (fun v5 wr => ∃ (i : Nat) (v3 : Value) (L3 : List S134), v5 = .int .i64 i ∧ i ≤ 8 ∧ i ≤ l3.length ∧ Aside0 (L3.length = i) ∧ Aside0 (SL w wr #[.slice A0 l0.length c0, .slice A1 l1.length c1, .int .i64 locks, .slice A3 l3.length c3] lk go (fun _ => True) (fun _ => True) (.slice none 0 0) (.slice Av L1.length cv) v3 [] L1 L3) ∧ Aside0 (∀ z ∈ L3, okC L1.length z)) (fun v _ => 8 - (intOf v).toNat)
        case atStart => exact ⟨0, .slice none 0 0, [], rfl, by omega, by omega, ⟨rfl⟩, HS, ⟨fun x h => absurd h (by simp)⟩⟩
        case round =>
          obtain ⟨i, v3, L3, rfl, hi, hil, HLL, HS2, HIN3⟩ := hrel
          clear HS
          have HS := HS2
          clear HS2
          have p3 : wr.cell? ⟨w.heap.size, 3, none⟩ = some (.slice A3 l3.length c3) := (blk_cell HS.out.BP 3).trans rfl
          by_cases h1 : l3.length ≤ i
          · have h2 : ¬ (i : Int) < l3.length := by omega
            go_wp2
            go_meet
            exact ⟨v3, L3, by have := HLL.out; omega, HS, HIN3⟩
          by_cases h2 : 8 ≤ i
          · have h3 : (i : Int) < l3.length := by omega
            have h4 : ¬ (i : Int) < 8 := by omega
            go_wp2
            go_meet
            exact ⟨v3, L3, by have := HLL.out; omega, HS, HIN3⟩
          obtain ⟨ad, ead, x0, x1, x2⟩ := at_T134 HR3.out (i : Int) (by omega) (by omega)
          rw [ead] at p3
          have EAD := Aside0.mk ead
          clear ead
          replace x0 := pw_cell_below HS.out.HB x0
          replace x1 := pw_cell_below HS.out.HB x1
          replace x2 := pw_cell_below HS.out.HB x2
          generalize rd_T134 l3 (i : Int) = cc at x0 x1 x2
          simp only [Int.toNat_natCast] at x0 x1 x2
          have h3 : (i : Int) < l3.length := by omega
          have h4 : (i : Int) < 8 := by omega
          go_upto_region 10 with ((with_reducible refine gate_dst (N := 6) rfl ?_); refine box_event ?hg (N := 6) ?hd (cs := #[.int .i64 0, .int .i64 0, .int .i64 0]) (t := 134) ?hr ?_; (case hd => rfl); (case hg => rfl); (case hr => first | (go_simp; done) | (go_simp; rfl)); intro gc hg w4 hbox hb; obtain ⟨hs, hgc⟩ := HS.out.box hb hg; clear HS hb hg x0 x1 x2 p3; have HS := Aside0.mk hs; have GC := Aside0.mk hgc; have BC := Aside0.mk hbox; clear hs hgc hbox; have f0 := blk_frozen BC.out 0; have f1 := blk_frozen BC.out 1; have f2 := blk_frozen BC.out 2; have e0 : w4.cell? ⟨gc, 0, none⟩ = some (.int .i64 0) := (blk_cell BC.out 0).trans rfl; have e1 : w4.cell? ⟨gc, 1, none⟩ = some (.int .i64 0) := (blk_cell BC.out 1).trans rfl; have e2 : w4.cell? ⟨gc, 2, none⟩ = some (.int .i64 0) := (blk_cell BC.out 2).trans rfl)
          have BC2 := Aside0.mk (three_set BC.out (.int .i64 cc.f0) (.int .i64 cc.f1) (.int .i64 cc.f2))
          have HS2 := Aside0.mk (HS.out.set3 GC.out (fun _ h => h.2) (fun _ h => h.2) BC.out (by decide) (.int .i64 cc.f0) (.int .i64 cc.f1) (.int .i64 cc.f2))
          clear HS BC f0 f1 f2 e0 e1 e2
          have HS := HS2
          have BC := BC2
          clear HS2 BC2
          generalize (((w4.setCell ⟨gc, 0, none⟩ (.int .i64 cc.f0)).setCell ⟨gc, 1, none⟩ (.int .i64 cc.f1)).setCell ⟨gc, 2, none⟩ (.int .i64 cc.f2)) = w5 at HS BC ⊢
          obtain ⟨y0, hm⟩ : ∃ y, modF cc.f0 3 = y := ⟨_, rfl⟩
          have M0 := Aside0.mk hm
          clear hm
          obtain ⟨y1, hm⟩ : ∃ y, modF cc.f1 L1.length = y := ⟨_, rfl⟩
          have M1 := Aside0.mk hm
          clear hm
          obtain ⟨y2, hm⟩ : ∃ y, modF cc.f2 8 = y := ⟨_, rfl⟩
          have M2 := Aside0.mk hm
          clear hm
          go_cut [7] (fun v7 wx => ∃ gx, v7 = .pointer (some ⟨gx, 0, none⟩) ∧ Aside0 (SL w wx #[.slice A0 l0.length c0, .slice A1 l1.length c1, .int .i64 locks, .slice A3 l3.length c3] lk go (fun k => k ≠ gx) (fun k => k ≠ gx) (.slice none 0 0) (.slice Av L1.length cv) v3 [] L1 L3) ∧ Aside0 (gx ≠ w.heap.size ∧ gx ≠ w.heap.size + 1 ∧ gx ≠ go ∧ w.heap.size ≤ gx) ∧ Aside0 (wx.heap[gx]? = some (.cells #[.int .i64 y0, .int .i64 y1, .int .i64 y2] 134 (0, 0))))
          case first =>
            refine wp_region_noPanic ?_
            refine start_ (n := 15) (S := (fun w' => w'.cell? ⟨gc, 0, none⟩ = some (.int .i64 cc.f0) ∧ w'.cell? ⟨gc, 1, none⟩ = some (.int .i64 cc.f1) ∧ w'.cell? ⟨gc, 2, none⟩ = some (.int .i64 cc.f2) ∧ w'.cell? ⟨go, 1, none⟩ = some (.slice Av L1.length cv))) (ds := [14]) #[false, false, false, false, false, false, false, false, false, false, false, false, false, false, false] (by kernel_rfl) rfl rfl (by (try dsimp only); first | exact ⟨(blk_cell BC.out 0).trans rfl, (blk_cell BC.out 1).trans rfl, (blk_cell BC.out 2).trans rfl, (blk_cell HS.out.BO 1).trans rfl⟩ | exact ⟨(blk_cell (blk_drew BC.out) 0).trans rfl, (blk_cell (blk_drew BC.out) 1).trans rfl, (blk_cell (blk_drew BC.out) 2).trans rfl, (blk_cell (blk_drew HS.out.BO) 1).trans rfl⟩) (fun hHeld => ?_)
            refine with_tab some10_tab (fun HT_ => ?_)
            have HS2 := Aside0.mk HS.out.drew
            have BC2 := Aside0.mk (blk_drew BC.out)
            clear HS
            have HS := HS2
            clear HS2
            clear BC
            have BC := BC2
            clear BC2
            generalize w5.drew = w0d at HS BC hHeld ⊢
            refine take_ (i := 0) (N := some 56) (v := ?_) (a' := ?_) #[true, false, false, false, false, false, false, false, false, false, false, false, false, false, false] rfl rfl (take_of HT_.out (by kernel_rfl)) (fun _ _ _ h => h) (Or.inl ⟨by first | rfl | (go_simp; done), ?_⟩) hHeld ?_ ?_
            rotate_left
            · rintro w' ⟨s0, s1, s2, s3⟩
              go_simp
              try (with_reducible rfl)
            rotate_left
            · simp only [Act.put, List.setIfInBounds_toArray, List.set_cons_zero, List.set_cons_succ]
              rfl
            refine take_ (i := 1) (N := some 57) (v := ?_) (a' := ?_) #[true, true, false, false, false, false, false, false, false, false, false, false, false, false, false] rfl rfl (take_of HT_.out (by kernel_rfl)) (fun _ _ _ h => h) (Or.inl ⟨by first | rfl | (go_simp; done), ?_⟩) hHeld ?_ ?_
            rotate_left
            · rintro w' ⟨s0, s1, s2, s3⟩
              go_simp
              try (with_reducible rfl)
            rotate_left
            · simp only [Act.put, List.setIfInBounds_toArray, List.set_cons_zero, List.set_cons_succ]
              rfl
            refine take_ (i := 3) (N := some 59) (v := ?_) (a' := ?_) #[true, true, false, true, false, false, false, false, false, false, false, false, false, false, false] rfl rfl (take_of HT_.out (by kernel_rfl)) (fun _ _ _ h => h) (Or.inl ⟨by first | rfl | (go_simp; done), ?_⟩) hHeld ?_ ?_
            rotate_left
            · rintro w' ⟨s0, s1, s2, s3⟩
              go_simp
              try (with_reducible rfl)
            rotate_left
            · simp only [Act.put, List.setIfInBounds_toArray, List.set_cons_zero, List.set_cons_succ]
              rfl
            refine take_ (i := 4) (N := some 60) (v := ?_) (a' := ?_) #[true, true, false, true, true, false, false, false, false, false, false, false, false, false, false] rfl rfl (take_of HT_.out (by kernel_rfl)) (fun _ _ _ h => h) (Or.inl ⟨by first | rfl | (go_simp; done), ?_⟩) hHeld ?_ ?_
            rotate_left
            · rintro w' ⟨s0, s1, s2, s3⟩
              go_simp
              try (with_reducible rfl)
            rotate_left
            · simp only [Act.put, List.setIfInBounds_toArray, List.set_cons_zero, List.set_cons_succ]
              rfl
            refine take_ (i := 5) (N := some 61) (v := ?_) (a' := ?_) #[true, true, false, true, true, true, false, false, false, false, false, false, false, false, false] rfl rfl (take_of HT_.out (by kernel_rfl)) (fun _ _ _ h => h) (Or.inl ⟨by first | rfl | (go_simp; done), ?_⟩) hHeld ?_ ?_
            rotate_left
            · rintro w' ⟨s0, s1, s2, s3⟩
              go_simp
              try (with_reducible rfl)
            rotate_left
            · simp only [Act.put, List.setIfInBounds_toArray, List.set_cons_zero, List.set_cons_succ]
              rfl
            refine take_ (i := 6) (N := some 62) (v := ?_) (a' := ?_) #[true, true, false, true, true, true, true, false, false, false, false, false, false, false, false] rfl rfl (take_of HT_.out (by kernel_rfl)) (fun _ _ _ h => h) (Or.inl ⟨by first | rfl | (go_simp; done), ?_⟩) hHeld ?_ ?_
            rotate_left
            · rintro w' ⟨s0, s1, s2, s3⟩
              go_simp
              try (with_reducible rfl)
            rotate_left
            · simp only [Act.put, List.setIfInBounds_toArray, List.set_cons_zero, List.set_cons_succ]
              rfl
            refine take_ (i := 7) (N := some 63) (v := ?_) (a' := ?_) #[true, true, false, true, true, true, true, true, false, false, false, false, false, false, false] rfl rfl (take_of HT_.out (by kernel_rfl)) (fun _ _ _ h => h) (Or.inl ⟨by first | rfl | (go_simp; done), ?_⟩) hHeld ?_ ?_
            rotate_left
            · rintro w' ⟨s0, s1, s2, s3⟩
              go_simp
              try (with_reducible rfl)
            rotate_left
            · simp only [Act.put, List.setIfInBounds_toArray, List.set_cons_zero, List.set_cons_succ]
              rfl
            refine take_ (i := 9) (N := some 65) (v := ?_) (a' := ?_) #[true, true, false, true, true, true, true, true, false, true, false, false, false, false, false] rfl rfl (take_of HT_.out (by kernel_rfl)) (fun _ _ _ h => h) (Or.inl ⟨by first | rfl | (go_simp; done), ?_⟩) hHeld ?_ ?_
            rotate_left
            · rintro w' ⟨s0, s1, s2, s3⟩
              go_simp
              try (with_reducible rfl)
            rotate_left
            · simp only [Act.put, List.setIfInBounds_toArray, List.set_cons_zero, List.set_cons_succ]
              rfl
            refine take_ (i := 10) (N := some 66) (v := ?_) (a' := ?_) #[true, true, false, true, true, true, true, true, false, true, true, false, false, false, false] rfl rfl (take_of HT_.out (by kernel_rfl)) (fun _ _ _ h => h) (Or.inl ⟨by first | rfl | (go_simp; done), ?_⟩) hHeld ?_ ?_
            rotate_left
            · rintro w' ⟨s0, s1, s2, s3⟩
              go_simp
              try (with_reducible rfl)
            rotate_left
            · simp only [Act.put, List.setIfInBounds_toArray, List.set_cons_zero, List.set_cons_succ]
              rfl
            refine two_ (i := 2) (j := 13) (Ni := some 58) (Nj := some 7) #[true, true, true, true, true, true, true, true, false, true, true, false, false, false, false] #[true, true, false, true, true, true, true, true, false, true, true, false, false, true, false] rfl rfl rfl rfl (two_of HT_.out (by kernel_rfl)) (by decide) (by decide) (fun K hK => ?_) (fun K hK => ?_)
            · go_simp
              (with_reducible refine (mod_calls cc.f0 3 _ M0.out _).mono ?_)
              rintro e wb ⟨rfl, hb⟩
              have HS2 := Aside0.mk (HS.out.below hb)
              have BC2 := Aside0.mk (blk_below BC.out hb)
              clear HS
              have HS := HS2
              clear HS2
              clear BC
              have BC := BC2
              clear BC2
              clear hb
              refine hK.out _ _ (by (try dsimp only); first | exact ⟨(blk_cell BC.out 0).trans rfl, (blk_cell BC.out 1).trans rfl, (blk_cell BC.out 2).trans rfl, (blk_cell HS.out.BO 1).trans rfl⟩ | exact ⟨(blk_cell (blk_drew BC.out) 0).trans rfl, (blk_cell (blk_drew BC.out) 1).trans rfl, (blk_cell (blk_drew BC.out) 2).trans rfl, (blk_cell (blk_drew HS.out.BO) 1).trans rfl⟩) (fun hHeld2 => ?_)
              clear hK K hHeld
              have hHeld := hHeld2
              clear hHeld2
              try simp only [Act.put, List.setIfInBounds_toArray, List.set_cons_zero, List.set_cons_succ]
              refine two_ (i := 8) (j := 13) (Ni := some 64) (Nj := some 7) #[true, true, true, true, true, true, true, true, true, true, true, false, false, false, false] #[true, true, true, true, true, true, true, true, false, true, true, false, false, true, false] rfl rfl rfl rfl (two_of HT_.out (by kernel_rfl)) (by decide) (by decide) (fun K hK => ?_) (fun K hK => ?_)
              · go_simp
                (with_reducible refine (mod_calls cc.f1 L1.length _ M1.out _).mono ?_)
                rintro e wb ⟨rfl, hb⟩
                have HS2 := Aside0.mk (HS.out.below hb)
                have BC2 := Aside0.mk (blk_below BC.out hb)
                clear HS
                have HS := HS2
                clear HS2
                clear BC
                have BC := BC2
                clear BC2
                clear hb
                refine hK.out _ _ (by (try dsimp only); first | exact ⟨(blk_cell BC.out 0).trans rfl, (blk_cell BC.out 1).trans rfl, (blk_cell BC.out 2).trans rfl, (blk_cell HS.out.BO 1).trans rfl⟩ | exact ⟨(blk_cell (blk_drew BC.out) 0).trans rfl, (blk_cell (blk_drew BC.out) 1).trans rfl, (blk_cell (blk_drew BC.out) 2).trans rfl, (blk_cell (blk_drew HS.out.BO) 1).trans rfl⟩) (fun hHeld2 => ?_)
                clear hK K hHeld
                have hHeld := hHeld2
                clear hHeld2
                try simp only [Act.put, List.setIfInBounds_toArray, List.set_cons_zero, List.set_cons_succ]
                refine two_ (i := 11) (j := 13) (Ni := some 67) (Nj := some 7) #[true, true, true, true, true, true, true, true, true, true, true, true, false, false, false] #[true, true, true, true, true, true, true, true, true, true, true, false, false, true, false] rfl rfl rfl rfl (two_of HT_.out (by kernel_rfl)) (by decide) (by decide) (fun K hK => ?_) (fun K hK => ?_)
                · go_simp
                  (with_reducible refine (mod_calls cc.f2 8 _ M2.out _).mono ?_)
                  rintro e wb ⟨rfl, hb⟩
                  have HS2 := Aside0.mk (HS.out.below hb)
                  have BC2 := Aside0.mk (blk_below BC.out hb)
                  clear HS
                  have HS := HS2
                  clear HS2
                  clear BC
                  have BC := BC2
                  clear BC2
                  clear hb
                  refine hK.out _ _ (by (try dsimp only); first | exact ⟨(blk_cell BC.out 0).trans rfl, (blk_cell BC.out 1).trans rfl, (blk_cell BC.out 2).trans rfl, (blk_cell HS.out.BO 1).trans rfl⟩ | exact ⟨(blk_cell (blk_drew BC.out) 0).trans rfl, (blk_cell (blk_drew BC.out) 1).trans rfl, (blk_cell (blk_drew BC.out) 2).trans rfl, (blk_cell (blk_drew HS.out.BO) 1).trans rfl⟩) (fun hHeld2 => ?_)
                  clear hK K hHeld
                  have hHeld := hHeld2
                  clear hHeld2
                  try simp only [Act.put, List.setIfInBounds_toArray, List.set_cons_zero, List.set_cons_succ]
                  refine take_ (i := 12) (N := some 68) (v := ?_) (a' := ?_) #[true, true, true, true, true, true, true, true, true, true, true, true, true, false, false] rfl rfl (take_of HT_.out (by kernel_rfl)) (fun _ _ _ h => h) (Or.inl ⟨by first | rfl | (go_simp; done), ?_⟩) hHeld ?_ ?_
                  rotate_left
                  · rintro w' ⟨s0, s1, s2, s3⟩
                    go_simp
                    try (with_reducible rfl)
                  rotate_left
                  · simp only [Act.put, List.setIfInBounds_toArray, List.set_cons_zero, List.set_cons_succ]
                    rfl
                  refine one_ (i := 13) (N := some 7) #[true, true, true, true, true, true, true, true, true, true, true, true, true, true, false] rfl rfl (one_of HT_.out (by kernel_rfl)) (by decide) (fun K hK => ?_)
                  refine box_step ?hg (N := 7) ?hd (cs := #[.int .i64 0, .int .i64 0, .int .i64 0]) (t := 134) ?hr ?_
                  case hd => rfl
                  case hg => rfl
                  case hr => first | (go_simp; done) | (go_simp; rfl)
                  intro gx hg wx hbox hb
                  obtain ⟨hs, hgx⟩ := HS.out.box hb hg
                  have NE : Aside0 (gc ≠ gx) := ⟨by have := blk_lt BC.out; omega⟩
                  have BC2 := Aside0.mk (blk_below BC.out hb)
                  clear HS hb hg
                  have HS := Aside0.mk hs
                  have GX := Aside0.mk hgx
                  have BX := Aside0.mk hbox
                  clear hs hgx hbox
                  clear BC
                  have BC := BC2
                  clear BC2
                  refine hK.out _ _ (by (try dsimp only); first | exact ⟨(blk_cell BC.out 0).trans rfl, (blk_cell BC.out 1).trans rfl, (blk_cell BC.out 2).trans rfl, (blk_cell HS.out.BO 1).trans rfl⟩ | exact ⟨(blk_cell (blk_drew BC.out) 0).trans rfl, (blk_cell (blk_drew BC.out) 1).trans rfl, (blk_cell (blk_drew BC.out) 2).trans rfl, (blk_cell (blk_drew HS.out.BO) 1).trans rfl⟩) (fun hHeld2 => ?_)
                  clear hK K hHeld
                  have hHeld := hHeld2
                  clear hHeld2
                  try simp only [Act.put, List.setIfInBounds_toArray, List.set_cons_zero, List.set_cons_succ]
                  refine last_ (i := 14) (N := none) #[true, true, true, true, true, true, true, true, true, true, true, true, true, true, true] rfl rfl (one_of HT_.out (by kernel_rfl)) (by decide) (fun K hK => ?_)
                  have f0 := blk_frozen BX.out 0
                  have f1 := blk_frozen BX.out 1
                  have f2 := blk_frozen BX.out 2
                  have e0 : wx.cell? ⟨gx, 0, none⟩ = some (.int .i64 0) := (blk_cell BX.out 0).trans rfl
                  have e1 : wx.cell? ⟨gx, 1, none⟩ = some (.int .i64 0) := (blk_cell BX.out 1).trans rfl
                  have e2 : wx.cell? ⟨gx, 2, none⟩ = some (.int .i64 0) := (blk_cell BX.out 2).trans rfl
                  go_simp
                  have BX2 := Aside0.mk (three_set BX.out (.int .i64 y0) (.int .i64 y1) (.int .i64 y2))
                  have HS2 := Aside0.mk ((HS.out.set3 GX.out (fun _ h => h.2) (fun _ h => h.2) BX.out (by decide) (.int .i64 y0) (.int .i64 y1) (.int .i64 y2)).mono (ok0' := fun k => k ≠ gx) (ok3' := fun k => k ≠ gx) (fun _ h => h.2) (fun _ h => h.2))
                  clear HS BX BC f0 f1 f2 e0 e1 e2
                  have HS := HS2
                  have BX := BX2
                  clear HS2 BX2
                  generalize (((wx.setCell ⟨gx, 0, none⟩ (.int .i64 y0)).setCell ⟨gx, 1, none⟩ (.int .i64 y1)).setCell ⟨gx, 2, none⟩ (.int .i64 y2)) = w6 at HS BX ⊢
                  refine hK.out _ _ ?_
                  clear hK K hHeld
                  try simp only [Act.put, List.setIfInBounds_toArray, List.set_cons_zero, List.set_cons_succ]
                  refine done_ (done_of HT_.out (by kernel_rfl)) ?_
                  refine NoPanic.normal ?_
                  go_wp2
                  go_meet
                  exact ⟨gx, rfl, HS, GX, BX⟩
                · refine box_step ?hg (N := 7) ?hd (cs := #[.int .i64 0, .int .i64 0, .int .i64 0]) (t := 134) ?hr ?_
                  case hd => rfl
                  case hg => rfl
                  case hr => first | (go_simp; done) | (go_simp; rfl)
                  intro gx hg wx hbox hb
                  obtain ⟨hs, hgx⟩ := HS.out.box hb hg
                  have NE : Aside0 (gc ≠ gx) := ⟨by have := blk_lt BC.out; omega⟩
                  have BC2 := Aside0.mk (blk_below BC.out hb)
                  clear HS hb hg
                  have HS := Aside0.mk hs
                  have GX := Aside0.mk hgx
                  have BX := Aside0.mk hbox
                  clear hs hgx hbox
                  clear BC
                  have BC := BC2
                  clear BC2
                  refine hK.out _ _ (by (try dsimp only); first | exact ⟨(blk_cell BC.out 0).trans rfl, (blk_cell BC.out 1).trans rfl, (blk_cell BC.out 2).trans rfl, (blk_cell HS.out.BO 1).trans rfl⟩ | exact ⟨(blk_cell (blk_drew BC.out) 0).trans rfl, (blk_cell (blk_drew BC.out) 1).trans rfl, (blk_cell (blk_drew BC.out) 2).trans rfl, (blk_cell (blk_drew HS.out.BO) 1).trans rfl⟩) (fun hHeld2 => ?_)
                  clear hK K hHeld
                  have hHeld := hHeld2
                  clear hHeld2
                  try simp only [Act.put, List.setIfInBounds_toArray, List.set_cons_zero, List.set_cons_succ]
                  refine one_ (i := 11) (N := some 67) #[true, true, true, true, true, true, true, true, true, true, true, true, false, true, false] rfl rfl (one_of HT_.out (by kernel_rfl)) (by decide) (fun K hK => ?_)
                  go_simp
                  (with_reducible refine (mod_calls cc.f2 8 _ M2.out _).mono ?_)
                  rintro e wb ⟨rfl, hb⟩
                  have HS2 := Aside0.mk (HS.out.below hb)
                  have BC2 := Aside0.mk (blk_below BC.out hb)
                  clear HS
                  have HS := HS2
                  clear HS2
                  clear BC
                  have BC := BC2
                  clear BC2
                  have BX2 := Aside0.mk (blk_below BX.out hb)
                  clear BX
                  have BX := BX2
                  clear BX2
                  clear hb
                  refine hK.out _ _ (by (try dsimp only); first | exact ⟨(blk_cell BC.out 0).trans rfl, (blk_cell BC.out 1).trans rfl, (blk_cell BC.out 2).trans rfl, (blk_cell HS.out.BO 1).trans rfl⟩ | exact ⟨(blk_cell (blk_drew BC.out) 0).trans rfl, (blk_cell (blk_drew BC.out) 1).trans rfl, (blk_cell (blk_drew BC.out) 2).trans rfl, (blk_cell (blk_drew HS.out.BO) 1).trans rfl⟩) (fun hHeld2 => ?_)
                  clear hK K hHeld
                  have hHeld := hHeld2
                  clear hHeld2
                  try simp only [Act.put, List.setIfInBounds_toArray, List.set_cons_zero, List.set_cons_succ]
                  refine take_ (i := 12) (N := some 68) (v := ?_) (a' := ?_) #[true, true, true, true, true, true, true, true, true, true, true, true, true, true, false] rfl rfl (take_of HT_.out (by kernel_rfl)) (fun _ _ _ h => h) (Or.inl ⟨by first | rfl | (go_simp; done), ?_⟩) hHeld ?_ ?_
                  rotate_left
                  · rintro w' ⟨s0, s1, s2, s3⟩
                    go_simp
                    try (with_reducible rfl)
                  rotate_left
                  · simp only [Act.put, List.setIfInBounds_toArray, List.set_cons_zero, List.set_cons_succ]
                    rfl
                  refine last_ (i := 14) (N := none) #[true, true, true, true, true, true, true, true, true, true, true, true, true, true, true] rfl rfl (one_of HT_.out (by kernel_rfl)) (by decide) (fun K hK => ?_)
                  have f0 := blk_frozen BX.out 0
                  have f1 := blk_frozen BX.out 1
                  have f2 := blk_frozen BX.out 2
                  have e0 : wb.cell? ⟨gx, 0, none⟩ = some (.int .i64 0) := (blk_cell BX.out 0).trans rfl
                  have e1 : wb.cell? ⟨gx, 1, none⟩ = some (.int .i64 0) := (blk_cell BX.out 1).trans rfl
                  have e2 : wb.cell? ⟨gx, 2, none⟩ = some (.int .i64 0) := (blk_cell BX.out 2).trans rfl
                  go_simp
                  have BX2 := Aside0.mk (three_set BX.out (.int .i64 y0) (.int .i64 y1) (.int .i64 y2))
                  have HS2 := Aside0.mk ((HS.out.set3 GX.out (fun _ h => h.2) (fun _ h => h.2) BX.out (by decide) (.int .i64 y0) (.int .i64 y1) (.int .i64 y2)).mono (ok0' := fun k => k ≠ gx) (ok3' := fun k => k ≠ gx) (fun _ h => h.2) (fun _ h => h.2))
                  clear HS BX BC f0 f1 f2 e0 e1 e2
                  have HS := HS2
                  have BX := BX2
                  clear HS2 BX2
                  generalize (((wb.setCell ⟨gx, 0, none⟩ (.int .i64 y0)).setCell ⟨gx, 1, none⟩ (.int .i64 y1)).setCell ⟨gx, 2, none⟩ (.int .i64 y2)) = w6 at HS BX ⊢
                  refine hK.out _ _ ?_
                  clear hK K hHeld
                  try simp only [Act.put, List.setIfInBounds_toArray, List.set_cons_zero, List.set_cons_succ]
                  refine done_ (done_of HT_.out (by kernel_rfl)) ?_
                  refine NoPanic.normal ?_
                  go_wp2
                  go_meet
                  exact ⟨gx, rfl, HS, GX, BX⟩
              · refine box_step ?hg (N := 7) ?hd (cs := #[.int .i64 0, .int .i64 0, .int .i64 0]) (t := 134) ?hr ?_
                case hd => rfl
                case hg => rfl
                case hr => first | (go_simp; done) | (go_simp; rfl)
                intro gx hg wx hbox hb
                obtain ⟨hs, hgx⟩ := HS.out.box hb hg
                have NE : Aside0 (gc ≠ gx) := ⟨by have := blk_lt BC.out; omega⟩
                have BC2 := Aside0.mk (blk_below BC.out hb)
                clear HS hb hg
                have HS := Aside0.mk hs
                have GX := Aside0.mk hgx
                have BX := Aside0.mk hbox
                clear hs hgx hbox
                clear BC
                have BC := BC2
                clear BC2
                refine hK.out _ _ (by (try dsimp only); first | exact ⟨(blk_cell BC.out 0).trans rfl, (blk_cell BC.out 1).trans rfl, (blk_cell BC.out 2).trans rfl, (blk_cell HS.out.BO 1).trans rfl⟩ | exact ⟨(blk_cell (blk_drew BC.out) 0).trans rfl, (blk_cell (blk_drew BC.out) 1).trans rfl, (blk_cell (blk_drew BC.out) 2).trans rfl, (blk_cell (blk_drew HS.out.BO) 1).trans rfl⟩) (fun hHeld2 => ?_)
                clear hK K hHeld
                have hHeld := hHeld2
                clear hHeld2
                try simp only [Act.put, List.setIfInBounds_toArray, List.set_cons_zero, List.set_cons_succ]
                refine one_ (i := 8) (N := some 64) #[true, true, true, true, true, true, true, true, true, true, true, false, false, true, false] rfl rfl (one_of HT_.out (by kernel_rfl)) (by decide) (fun K hK => ?_)
                go_simp
                (with_reducible refine (mod_calls cc.f1 L1.length _ M1.out _).mono ?_)
                rintro e wb ⟨rfl, hb⟩
                have HS2 := Aside0.mk (HS.out.below hb)
                have BC2 := Aside0.mk (blk_below BC.out hb)
                clear HS
                have HS := HS2
                clear HS2
                clear BC
                have BC := BC2
                clear BC2
                have BX2 := Aside0.mk (blk_below BX.out hb)
                clear BX
                have BX := BX2
                clear BX2
                clear hb
                refine hK.out _ _ (by (try dsimp only); first | exact ⟨(blk_cell BC.out 0).trans rfl, (blk_cell BC.out 1).trans rfl, (blk_cell BC.out 2).trans rfl, (blk_cell HS.out.BO 1).trans rfl⟩ | exact ⟨(blk_cell (blk_drew BC.out) 0).trans rfl, (blk_cell (blk_drew BC.out) 1).trans rfl, (blk_cell (blk_drew BC.out) 2).trans rfl, (blk_cell (blk_drew HS.out.BO) 1).trans rfl⟩) (fun hHeld2 => ?_)
                clear hK K hHeld
                have hHeld := hHeld2
                clear hHeld2
                try simp only [Act.put, List.setIfInBounds_toArray, List.set_cons_zero, List.set_cons_succ]
                refine one_ (i := 11) (N := some 67) #[true, true, true, true, true, true, true, true, true, true, true, true, false, true, false] rfl rfl (one_of HT_.out (by kernel_rfl)) (by decide) (fun K hK => ?_)
                go_simp
                (with_reducible refine (mod_calls cc.f2 8 _ M2.out _).mono ?_)
                rintro e wb ⟨rfl, hb⟩
                have HS2 := Aside0.mk (HS.out.below hb)
                have BC2 := Aside0.mk (blk_below BC.out hb)
                clear HS
                have HS := HS2
                clear HS2
                clear BC
                have BC := BC2
                clear BC2
                have BX2 := Aside0.mk (blk_below BX.out hb)
                clear BX
                have BX := BX2
                clear BX2
                clear hb
                refine hK.out _ _ (by (try dsimp only); first | exact ⟨(blk_cell BC.out 0).trans rfl, (blk_cell BC.out 1).trans rfl, (blk_cell BC.out 2).trans rfl, (blk_cell HS.out.BO 1).trans rfl⟩ | exact ⟨(blk_cell (blk_drew BC.out) 0).trans rfl, (blk_cell (blk_drew BC.out) 1).trans rfl, (blk_cell (blk_drew BC.out) 2).trans rfl, (blk_cell (blk_drew HS.out.BO) 1).trans rfl⟩) (fun hHeld2 => ?_)
                clear hK K hHeld
                have hHeld := hHeld2
                clear hHeld2
                try simp only [Act.put, List.setIfInBounds_toArray, List.set_cons_zero, List.set_cons_succ]
                refine take_ (i := 12) (N := some 68) (v := ?_) (a' := ?_) #[true, true, true, true, true, true, true, true, true, true, true, true, true, true, false] rfl rfl (take_of HT_.out (by kernel_rfl)) (fun _ _ _ h => h) (Or.inl ⟨by first | rfl | (go_simp; done), ?_⟩) hHeld ?_ ?_
                rotate_left
                · rintro w' ⟨s0, s1, s2, s3⟩
                  go_simp
                  try (with_reducible rfl)
                rotate_left
                · simp only [Act.put, List.setIfInBounds_toArray, List.set_cons_zero, List.set_cons_succ]
                  rfl
                refine last_ (i := 14) (N := none) #[true, true, true, true, true, true, true, true, true, true, true, true, true, true, true] rfl rfl (one_of HT_.out (by kernel_rfl)) (by decide) (fun K hK => ?_)
                have f0 := blk_frozen BX.out 0
                have f1 := blk_frozen BX.out 1
                have f2 := blk_frozen BX.out 2
                have e0 : wb.cell? ⟨gx, 0, none⟩ = some (.int .i64 0) := (blk_cell BX.out 0).trans rfl
                have e1 : wb.cell? ⟨gx, 1, none⟩ = some (.int .i64 0) := (blk_cell BX.out 1).trans rfl
                have e2 : wb.cell? ⟨gx, 2, none⟩ = some (.int .i64 0) := (blk_cell BX.out 2).trans rfl
                go_simp
                have BX2 := Aside0.mk (three_set BX.out (.int .i64 y0) (.int .i64 y1) (.int .i64 y2))
                have HS2 := Aside0.mk ((HS.out.set3 GX.out (fun _ h => h.2) (fun _ h => h.2) BX.out (by decide) (.int .i64 y0) (.int .i64 y1) (.int .i64 y2)).mono (ok0' := fun k => k ≠ gx) (ok3' := fun k => k ≠ gx) (fun _ h => h.2) (fun _ h => h.2))
                clear HS BX BC f0 f1 f2 e0 e1 e2
                have HS := HS2
                have BX := BX2
                clear HS2 BX2
                generalize (((wb.setCell ⟨gx, 0, none⟩ (.int .i64 y0)).setCell ⟨gx, 1, none⟩ (.int .i64 y1)).setCell ⟨gx, 2, none⟩ (.int .i64 y2)) = w6 at HS BX ⊢
                refine hK.out _ _ ?_
                clear hK K hHeld
                try simp only [Act.put, List.setIfInBounds_toArray, List.set_cons_zero, List.set_cons_succ]
                refine done_ (done_of HT_.out (by kernel_rfl)) ?_
                refine NoPanic.normal ?_
                go_wp2
                go_meet
                exact ⟨gx, rfl, HS, GX, BX⟩
            · refine box_step ?hg (N := 7) ?hd (cs := #[.int .i64 0, .int .i64 0, .int .i64 0]) (t := 134) ?hr ?_
              case hd => rfl
              case hg => rfl
              case hr => first | (go_simp; done) | (go_simp; rfl)
              intro gx hg wx hbox hb
              obtain ⟨hs, hgx⟩ := HS.out.box hb hg
              have NE : Aside0 (gc ≠ gx) := ⟨by have := blk_lt BC.out; omega⟩
              have BC2 := Aside0.mk (blk_below BC.out hb)
              clear HS hb hg
              have HS := Aside0.mk hs
              have GX := Aside0.mk hgx
              have BX := Aside0.mk hbox
              clear hs hgx hbox
              clear BC
              have BC := BC2
              clear BC2
              refine hK.out _ _ (by (try dsimp only); first | exact ⟨(blk_cell BC.out 0).trans rfl, (blk_cell BC.out 1).trans rfl, (blk_cell BC.out 2).trans rfl, (blk_cell HS.out.BO 1).trans rfl⟩ | exact ⟨(blk_cell (blk_drew BC.out) 0).trans rfl, (blk_cell (blk_drew BC.out) 1).trans rfl, (blk_cell (blk_drew BC.out) 2).trans rfl, (blk_cell (blk_drew HS.out.BO) 1).trans rfl⟩) (fun hHeld2 => ?_)
              clear hK K hHeld
              have hHeld := hHeld2
              clear hHeld2
              try simp only [Act.put, List.setIfInBounds_toArray, List.set_cons_zero, List.set_cons_succ]
              refine one_ (i := 2) (N := some 58) #[true, true, true, true, true, true, true, true, false, true, true, false, false, true, false] rfl rfl (one_of HT_.out (by kernel_rfl)) (by decide) (fun K hK => ?_)
              go_simp
              (with_reducible refine (mod_calls cc.f0 3 _ M0.out _).mono ?_)
              rintro e wb ⟨rfl, hb⟩
              have HS2 := Aside0.mk (HS.out.below hb)
              have BC2 := Aside0.mk (blk_below BC.out hb)
              clear HS
              have HS := HS2
              clear HS2
              clear BC
              have BC := BC2
              clear BC2
              have BX2 := Aside0.mk (blk_below BX.out hb)
              clear BX
              have BX := BX2
              clear BX2
              clear hb
              refine hK.out _ _ (by (try dsimp only); first | exact ⟨(blk_cell BC.out 0).trans rfl, (blk_cell BC.out 1).trans rfl, (blk_cell BC.out 2).trans rfl, (blk_cell HS.out.BO 1).trans rfl⟩ | exact ⟨(blk_cell (blk_drew BC.out) 0).trans rfl, (blk_cell (blk_drew BC.out) 1).trans rfl, (blk_cell (blk_drew BC.out) 2).trans rfl, (blk_cell (blk_drew HS.out.BO) 1).trans rfl⟩) (fun hHeld2 => ?_)
              clear hK K hHeld
              have hHeld := hHeld2
              clear hHeld2
              try simp only [Act.put, List.setIfInBounds_toArray, List.set_cons_zero, List.set_cons_succ]
              refine one_ (i := 8) (N := some 64) #[true, true, true, true, true, true, true, true, true, true, true, false, false, true, false] rfl rfl (one_of HT_.out (by kernel_rfl)) (by decide) (fun K hK => ?_)
              go_simp
              (with_reducible refine (mod_calls cc.f1 L1.length _ M1.out _).mono ?_)
              rintro e wb ⟨rfl, hb⟩
              have HS2 := Aside0.mk (HS.out.below hb)
              have BC2 := Aside0.mk (blk_below BC.out hb)
              clear HS
              have HS := HS2
              clear HS2
              clear BC
              have BC := BC2
              clear BC2
              have BX2 := Aside0.mk (blk_below BX.out hb)
              clear BX
              have BX := BX2
              clear BX2
              clear hb
              refine hK.out _ _ (by (try dsimp only); first | exact ⟨(blk_cell BC.out 0).trans rfl, (blk_cell BC.out 1).trans rfl, (blk_cell BC.out 2).trans rfl, (blk_cell HS.out.BO 1).trans rfl⟩ | exact ⟨(blk_cell (blk_drew BC.out) 0).trans rfl, (blk_cell (blk_drew BC.out) 1).trans rfl, (blk_cell (blk_drew BC.out) 2).trans rfl, (blk_cell (blk_drew HS.out.BO) 1).trans rfl⟩) (fun hHeld2 => ?_)
              clear hK K hHeld
              have hHeld := hHeld2
              clear hHeld2
              try simp only [Act.put, List.setIfInBounds_toArray, List.set_cons_zero, List.set_cons_succ]
              refine one_ (i := 11) (N := some 67) #[true, true, true, true, true, true, true, true, true, true, true, true, false, true, false] rfl rfl (one_of HT_.out (by kernel_rfl)) (by decide) (fun K hK => ?_)
              go_simp
              (with_reducible refine (mod_calls cc.f2 8 _ M2.out _).mono ?_)
              rintro e wb ⟨rfl, hb⟩
              have HS2 := Aside0.mk (HS.out.below hb)
              have BC2 := Aside0.mk (blk_below BC.out hb)
              clear HS
              have HS := HS2
              clear HS2
              clear BC
              have BC := BC2
              clear BC2
              have BX2 := Aside0.mk (blk_below BX.out hb)
              clear BX
              have BX := BX2
              clear BX2
              clear hb
              refine hK.out _ _ (by (try dsimp only); first | exact ⟨(blk_cell BC.out 0).trans rfl, (blk_cell BC.out 1).trans rfl, (blk_cell BC.out 2).trans rfl, (blk_cell HS.out.BO 1).trans rfl⟩ | exact ⟨(blk_cell (blk_drew BC.out) 0).trans rfl, (blk_cell (blk_drew BC.out) 1).trans rfl, (blk_cell (blk_drew BC.out) 2).trans rfl, (blk_cell (blk_drew HS.out.BO) 1).trans rfl⟩) (fun hHeld2 => ?_)
              clear hK K hHeld
              have hHeld := hHeld2
              clear hHeld2
              try simp only [Act.put, List.setIfInBounds_toArray, List.set_cons_zero, List.set_cons_succ]
              refine take_ (i := 12) (N := some 68) (v := ?_) (a' := ?_) #[true, true, true, true, true, true, true, true, true, true, true, true, true, true, false] rfl rfl (take_of HT_.out (by kernel_rfl)) (fun _ _ _ h => h) (Or.inl ⟨by first | rfl | (go_simp; done), ?_⟩) hHeld ?_ ?_
              rotate_left
              · rintro w' ⟨s0, s1, s2, s3⟩
                go_simp
                try (with_reducible rfl)
              rotate_left
              · simp only [Act.put, List.setIfInBounds_toArray, List.set_cons_zero, List.set_cons_succ]
                rfl
              refine last_ (i := 14) (N := none) #[true, true, true, true, true, true, true, true, true, true, true, true, true, true, true] rfl rfl (one_of HT_.out (by kernel_rfl)) (by decide) (fun K hK => ?_)
              have f0 := blk_frozen BX.out 0
              have f1 := blk_frozen BX.out 1
              have f2 := blk_frozen BX.out 2
              have e0 : wb.cell? ⟨gx, 0, none⟩ = some (.int .i64 0) := (blk_cell BX.out 0).trans rfl
              have e1 : wb.cell? ⟨gx, 1, none⟩ = some (.int .i64 0) := (blk_cell BX.out 1).trans rfl
              have e2 : wb.cell? ⟨gx, 2, none⟩ = some (.int .i64 0) := (blk_cell BX.out 2).trans rfl
              go_simp
              have BX2 := Aside0.mk (three_set BX.out (.int .i64 y0) (.int .i64 y1) (.int .i64 y2))
              have HS2 := Aside0.mk ((HS.out.set3 GX.out (fun _ h => h.2) (fun _ h => h.2) BX.out (by decide) (.int .i64 y0) (.int .i64 y1) (.int .i64 y2)).mono (ok0' := fun k => k ≠ gx) (ok3' := fun k => k ≠ gx) (fun _ h => h.2) (fun _ h => h.2))
              clear HS BX BC f0 f1 f2 e0 e1 e2
              have HS := HS2
              have BX := BX2
              clear HS2 BX2
              generalize (((wb.setCell ⟨gx, 0, none⟩ (.int .i64 y0)).setCell ⟨gx, 1, none⟩ (.int .i64 y1)).setCell ⟨gx, 2, none⟩ (.int .i64 y2)) = w6 at HS BX ⊢
              refine hK.out _ _ ?_
              clear hK K hHeld
              try simp only [Act.put, List.setIfInBounds_toArray, List.set_cons_zero, List.set_cons_succ]
              refine done_ (done_of HT_.out (by kernel_rfl)) ?_
              refine NoPanic.normal ?_
              go_wp2
              go_meet
              exact ⟨gx, rfl, HS, GX, BX⟩
          case rest =>
            obtain ⟨gx, rfl, HS2, GX, BX⟩ := hcut
            clear HS BC GC
            have HS := HS2
            clear HS2
            have q1 := (blk_cell HS.out.BO 1).trans (rfl : _ = some (Value.slice Av L1.length cv))
            have f0 := blk_frozen BX.out 0
            have f1 := blk_frozen BX.out 1
            have f2 := blk_frozen BX.out 2
            have e0 := (blk_cell BX.out 0).trans (rfl : _ = some (Value.int .i64 y0))
            have e1 := (blk_cell BX.out 1).trans (rfl : _ = some (Value.int .i64 y1))
            have e2 := (blk_cell BX.out 2).trans (rfl : _ = some (Value.int .i64 y2))
            go_upto_if 72 with (fail)
            go_cut [] (fun wx => ∃ a b c, okC L1.length ⟨a, b, c⟩ ∧ Aside0 (SL w wx #[.slice A0 l0.length c0, .slice A1 l1.length c1, .int .i64 locks, .slice A3 l3.length c3] lk go (fun k => k ≠ gx) (fun k => k ≠ gx) (.slice none 0 0) (.slice Av L1.length cv) v3 [] L1 L3) ∧ Aside0 (wx.heap[gx]? = some (.cells #[.int .i64 a, .int .i64 b, .int .i64 c] 134 (0, 0))))
            case first =>
              by_cases hz : L1.length = 0
              · have hz2 : (L1.length : Int) = 0 := by omega
                go_wp2
                go_meet
                exact ⟨2, 0, 0, ⟨⟨by decide, by decide⟩, fun h => absurd h (by decide)⟩, ⟨HS.out.set3 GX.out (fun _ h => h) (fun _ h => h) BX.out (by decide) _ _ _⟩, ⟨three_set BX.out _ _ _⟩⟩
              · have hz2 : ¬ (L1.length : Int) = 0 := by omega
                go_wp2
                go_meet
                exact ⟨y0, y1, y2, ⟨by rw [← M0.out]; exact modF_in (m := 3) (by decide) (by decide), fun h => ⟨by rw [← M1.out]; exact modF_in (m := L1.length) (by omega) (by have := HL1.out; omega), by rw [← M2.out]; exact modF_in (m := 8) (by decide) (by decide)⟩⟩, HS, BX⟩
            case rest =>
              obtain ⟨a, b, c, hok, HS2, BX2⟩ := hcut
              clear HS BX q1 f0 f1 f2 e0 e1 e2
              have HS := Aside0.mk (HS2.out.mono (ok0' := fun _ => True) (ok3' := fun _ => True) (fun _ _ => trivial) (fun _ _ => trivial))
              have BX := BX2
              clear HS2 BX2
              have HOK := Aside0.mk hok
              clear hok
              obtain ⟨A3', c3', rfl⟩ := Kd.R_slice HS.out.H3
              have o3 : wc.cell? ⟨go, 3, none⟩ = some (.slice A3' L3.length c3') := (blk_cell HS.out.BO 3).trans rfl
              have e0 : wc.cell? ⟨gx, 0, none⟩ = some (.int .i64 a) := (blk_cell BX.out 0).trans rfl
              have e1 : wc.cell? ⟨gx, 1, none⟩ = some (.int .i64 b) := (blk_cell BX.out 1).trans rfl
              have e2 : wc.cell? ⟨gx, 2, none⟩ = some (.int .i64 c) := (blk_cell BX.out 2).trans rfl
              go_wp2_with ((with_reducible refine gate_builtin (b := .append) (xs := #[.tmp 75, .tmp 77]) rfl ?_); at_builtin; refine Kd.R_append k134 (w0 := w) w.heap.size rfl (.tmp 75) (.tmp 77) 110 134 (.agg #[(.int .i64 0), (.int .i64 0), (.int .i64 0)]) 24 rfl Try.underlying110 info134 rfl (by decide) (by omega) (.slice A3' L3.length c3') L3 (⟨a, b, c⟩ : S134) [.int .i64 a, .int .i64 b, .int .i64 c] (fun _ => True) (fun _ => False) rfl (by first | (go_simp; done) | (go_simp; rfl)) (k134_mkM _ _ _ (⟨a, b, c⟩ : S134)) (fun _ hk => hk.elim) (fun _ _ => trivial) HS.out.H3 HS.out.HB HS.out.HB.size (by have := HLL.out; omega) ?_; intro v4 w7 ho hb7 hg hat; clear hat; obtain ⟨L4, hL4⟩ : ∃ L4, L3 ++ [(⟨a, b, c⟩ : S134)] = L4 := ⟨_, rfl⟩; rw [hL4] at ho; have HLL4 := Aside0.mk (show L4.length = i + 1 by rw [← hL4, List.length_append, HLL.out]; rfl); have HIN4 := Aside0.mk (show ∀ z ∈ L4, okC L1.length z by rw [← hL4]; intro z hz; rcases List.mem_append.1 hz with h | h; exact HIN3.out z h; rw [List.mem_singleton.1 h]; exact HOK.out); clear hL4; obtain ⟨A4, c4, rfl⟩ := Kd.R_slice ho; have HS2 := Aside0.mk (HS.out.push3 hg hb7 ho); have o3' : w7.cell? ⟨go, 3, none⟩ = some (.slice A3' L3.length c3') := (blk_cell (HS.out.mid3 hg) 3).trans rfl; have f3' : w7.frozen? ⟨go, 3, none⟩ = false := blk_frozen (HS.out.mid3 hg) 3; clear HS hg ho hb7)
              refine ⟨⟨i + 1, _, L4, by simp, by omega, by omega, HLL4, HS2, HIN4⟩, by simp [intOf]; omega⟩
      case rest =>
        clear HS
        obtain ⟨v3, L3, hl3, HS, HIN3⟩ := hcut
        have HL3 := Aside0.mk hl3
        clear hl3
        obtain ⟨A3', c3', rfl⟩ := Kd.R_slice HS.out.H3
        have a0 : wc.cell? ⟨w.heap.size, 0, none⟩ = some (.slice A0 l0.length c0) := (blk_cell HS.out.BP 0).trans rfl
        have hc0 := HC0.out
        go_upto_if 89 with (fail)
        obtain ⟨m, hm, hm5, hml, hmz⟩ : ∃ m : Nat, (if (5 : Int) < l0.length then (5 : Int) else (l0.length : Int)) = (m : Int) ∧ m ≤ 5 ∧ m ≤ l0.length ∧ (m = 0 → l0.length = 0) := by
          by_cases h : (5 : Int) < l0.length
          · exact ⟨5, by rw [if_pos h]; rfl, by omega, by omega, by omega⟩
          · exact ⟨l0.length, by rw [if_neg h], by omega, by omega, by omega⟩
        rw [hm]
        clear hm a0
        go_cut [8] (fun v8 wx => ∃ Af nf cf fs, v8 = .slice Af nf cf ∧ nf ≤ cf ∧ 1 ≤ nf ∧ nf ≤ 5 ∧ Aside0 (SL w wx #[.slice A0 l0.length c0, .slice A1 l1.length c1, .int .i64 locks, .slice A3 l3.length c3] lk go (fun _ => True) (fun _ => True) (.slice none 0 0) (.slice Av L1.length cv) (.slice A3' L3.length c3') [] L1 L3) ∧ Aside0 (Kd.C (Kd.slice 128 k128) w Af nf fs ∨ nf = 1 ∧ ∃ g1 g2, go < g1 ∧ go < g2 ∧ Af = some ⟨g2, 0, none⟩ ∧ fs = [[z128]] ∧ wx.heap[g1]? = some (.cells #[.int .i64 0, .int .i64 0, .int .i64 0, .int .i64 0] 128 (0, 0)) ∧ wx.heap[g2]? = some (.cells #[.slice (some ⟨g1, 0, none⟩) 1 1] 125 (0, 0))))
        case first =>
          cases m with
          | succ m =>
            go_wp2
            go_meet
            exact ⟨A0, m + 1, c0, l0.take (m + 1), rfl, by omega, by omega, by omega, HS, ⟨Or.inl (by have := Kd.C_take HR0.out hml; rwa [show (l0.take (m + 1)).length = m + 1 by rw [List.length_take]; omega] at this)⟩⟩
          | zero =>
            clear hmz
            go_wp2
            go_meet
            have hn := blk_new (wc.alloc (.cells #[.int .i64 0, .int .i64 0, .int .i64 0, .int .i64 0] 128)) (.cells #[.slice (some ⟨wc.heap.size, 0, none⟩) 1 1] 125)
            rw [show (wc.alloc (.cells #[.int .i64 0, .int .i64 0, .int .i64 0, .int .i64 0] 128)).heap.size = wc.heap.size + 1 by simp] at hn
            have hl := blk_lt HS.out.BO
            exact ⟨_, 1, 1, [[z128]], rfl, by decide, by decide, by decide, ⟨(HS.out.alloc _).alloc _⟩, ⟨Or.inr ⟨rfl, wc.heap.size, wc.heap.size + 1, hl, by omega, rfl, rfl, blk_alloc (blk_new wc _) _, hn⟩⟩⟩
        case rest =>
          obtain ⟨Af, nf, cf, fs, rfl, hncf, hnf1, hnf5, HS2, HF⟩ := hcut
          clear HS hml hmz hm5
          have HS := HS2
          clear HS2
          go_upto_block 4 with ((with_reducible refine gate_dst (N := 95) rfl ?_); refine Kd.S_make (Kd.slice 128 k128) (w0 := w) w.heap.size 125 rfl (N := 95) rfl 109 (.tmp 94) (.tmp 94) rfl (nf : Int) rfl rfl Try.underlying109 (.slice none 0 0) 24 info125 rfl (by decide) (by decide) ([] : List S128) (ok := fun _ => True) (okp := fun _ => False) ⟨_, rfl, Kd.R_nil _ _ _ _ _⟩ (fun _ hk => hk.elim) trivial (by omega) (by simp; omega) HS.out.HB HS.out.HB.size ?_; intro v0 w1 ho hb1 hg hat; clear hat hb1; obtain ⟨L0, hL0⟩ : ∃ L0, List.replicate (nf : Int).toNat ([] : List S128) = L0 := ⟨_, rfl⟩; rw [hL0] at ho; have HL0 := Aside0.mk (show L0.length = nf by rw [← hL0]; simp); clear hL0; obtain ⟨g0, cap0, rfl, hx1, hx2, hx3⟩ := Kd.S_form ho (by rw [HL0.out]; omega); clear hx1 hx2 hx3; have HS2 := Aside0.mk (HS.out.make0 hg ho); have HK := Aside0.mk (HS.out.below (below_of_grown hg)); have o0 : w1.cell? ⟨go, 0, none⟩ = some (.slice none 0 0) := (blk_cell HK.out.BO 0).trans rfl; have f0 : w1.frozen? ⟨go, 0, none⟩ = false := blk_frozen HK.out.BO 0; have HG := Aside0.mk (below_of_grown hg); clear HK HS hg ho)
          have hl0 := HL0.out
          rw [hl0] at HS2 ⊢
          clear hl0
          have HC : Aside0 (Kd.C (Kd.slice 128 k128) (w1.setCell ⟨go, 0, none⟩ (.slice (some ⟨g0, 0, none⟩) nf cap0)) Af nf fs) := ⟨by
            rcases HF.out with h | ⟨h1, g1, g2, h2, h3, rfl, rfl, h4, h5⟩
            · exact Kd.C_below h HS2.out.HB
            · subst h1
              exact lit2 (blk_far (p := ⟨go, 0, none⟩) (blk_below h4 HG.out) (by show g1 ≠ go; omega) _) (blk_far (p := ⟨go, 0, none⟩) (blk_below h5 HG.out) (by show g2 ≠ go; omega) _)⟩
          have HFS : Aside0 (Kd.C (Kd.slice 128 k128) w Af nf fs ∨ nf = 1) := ⟨HF.out.imp id (fun h => h.1)⟩
          clear HF HG o0 f0
          have HS := HS2
          clear HS2
          generalize (w1.setCell ⟨go, 0, none⟩ (.slice (some ⟨g0, 0, none⟩) nf cap0)) = wy at HS HC ⊢
          go_cut [] (fun wx => ∃ L0 : List (List S128), Aside0 (L0.length = nf) ∧ Aside0 (SL w wx #[.slice A0 l0.length c0, .slice A1 l1.length c1, .int .i64 locks, .slice A3 l3.length c3] lk go (fun _ => True) (fun _ => True) (.slice (some ⟨g0, 0, none⟩) nf cap0) (.slice Av L1.length cv) (.slice A3' L3.length c3') L0 L1 L3) ∧ Aside0 (∀ j, j < nf → rowOk nf L1.length lk L3.length (rd_L5 L0 (j : Nat))))
          case first =>
            go_wp2
            go_loopw [99] (fun v99 wr => ∃ (i : Nat) (L0 : List (List S128)), v99 = .int .i64 i ∧ i ≤ nf ∧ Aside0 (L0.length = nf) ∧ Aside0 (SL w wr #[.slice A0 l0.length c0, .slice A1 l1.length c1, .int .i64 locks, .slice A3 l3.length c3] lk go (fun _ => True) (fun _ => True) (.slice (some ⟨g0, 0, none⟩) nf cap0) (.slice Av L1.length cv) (.slice A3' L3.length c3') L0 L1 L3) ∧ Aside0 (∀ j, j < i → rowOk nf L1.length lk L3.length (rd_L5 L0 (j : Nat))) ∧ Aside0 (i < nf → Kd.C (Kd.slice 128 k128) wr Af nf fs)) (fun v _ => nf - (intOf v).toNat)
            case atStart => exact ⟨0, L0, rfl, by omega, HL0, HS, ⟨fun j h => absurd h (by omega)⟩, ⟨fun _ => HC.out⟩⟩
            case round =>
              clear HS HC HL0
              obtain ⟨i, L0', rfl, hi, HL0', HS, HR, HC⟩ := hrel
              by_cases h1 : nf ≤ i
              · have h2 : ¬ (i : Int) < nf := by omega
                go_wp2
                go_meet
                exact ⟨L0', HL0', HS, ⟨fun j hj => HR.out j (by omega)⟩⟩
              obtain ⟨ad, Ai, ci, ead, x0, hci, hin⟩ := at_L5 (HC.out (by omega)) (i : Int) (by omega) (by omega)
              subst ead
              simp only [Int.toNat_natCast] at x0
              obtain ⟨fi, hfi⟩ : ∃ fi, rd_L5 fs (i : Int) = fi := ⟨_, rfl⟩
              rw [hfi] at x0 hci hin
              have HIN := Aside0.mk hin
              have HFI := Aside0.mk hfi
              clear hin hfi
              have h3 : (i : Int) < nf := by omega
              go_upto_if 111 with (fail)
              obtain ⟨m2, hm, hm5, hml, hmz⟩ : ∃ m : Nat, (if (20 : Int) < fi.length then (20 : Int) else (fi.length : Int)) = (m : Int) ∧ m ≤ 20 ∧ m ≤ fi.length ∧ (m = 0 → fi.length = 0) := by
                by_cases h : (20 : Int) < fi.length
                · exact ⟨20, by rw [if_pos h]; rfl, by omega, by omega, by omega⟩
                · exact ⟨fi.length, by rw [if_neg h], by omega, by omega, by omega⟩
              rw [hm]
              clear hm x0
              go_cut [10] (fun v10 wx => ∃ Ag ng cg gs, v10 = .slice Ag ng cg ∧ ng ≤ cg ∧ 1 ≤ ng ∧ ng ≤ 20 ∧ Aside0 (SL w wx #[.slice A0 l0.length c0, .slice A1 l1.length c1, .int .i64 locks, .slice A3 l3.length c3] lk go (fun _ => True) (fun _ => True) (.slice (some ⟨g0, 0, none⟩) nf cap0) (.slice Av L1.length cv) (.slice A3' L3.length c3') L0' L1 L3) ∧ Aside0 (Kd.C k128 wx Ag ng gs))
              case first =>
                cases m2 with
                | succ m2 =>
                  go_wp2
                  go_meet
                  exact ⟨Ai, m2 + 1, ci, fi.take (m2 + 1), rfl, by omega, by omega, by omega, HS, ⟨by have := Kd.C_take HIN.out hml; rwa [show (fi.take (m2 + 1)).length = m2 + 1 by rw [List.length_take]; omega] at this⟩⟩
                | zero =>
                  clear hmz
                  go_wp2
                  go_meet
                  exact ⟨_, 1, 1, [z128], rfl, by decide, by decide, by decide, ⟨HS.out.alloc _⟩, ⟨lit1 (blk_new wr _)⟩⟩
              case rest =>
                obtain ⟨Ag, ng, cg, gs, rfl, hncg, hng1, hng20, HS2, HG⟩ := hcut
                clear HS HIN HC hm5 hml hmz hci
                have HS := HS2
                clear HS2
                obtain ⟨wz, hwz⟩ : ∃ wz : World, wz = wc := ⟨_, rfl⟩
                subst hwz
                go_upto_block 6 with ((with_reducible refine gate_dst (N := 114) rfl ?_); refine Kd.R_lit k128 (w0 := wz) wz.heap.size 128 ?hg (N := 114) ?hd (xs := ([] : List S128)) (inner := []) (ok := fun _ => True) (okp := fun _ => True) ?hr ?hp (fun _ hk => hk) trivial (Below.refl _ _) (Nat.le_refl _) (by simp) ?_; (case hd => rfl); (case hg => rfl); (case hr => first | (go_simp; done) | (go_simp; rfl)); (case hp => exact (Reps.none _ _)); intro v wl ho hb hg hat; clear hg hat; have HV := Aside0.mk ho; have HBz := Aside0.mk hb; clear ho hb)
                go_cut [11] (fun v11 wx => ∃ (v : Value) (l : List S128), v11 = v ∧ Aside0 (l.length = ng) ∧ Aside0 (Kd.R k128 128 wx wz.heap.size (fun _ => True) v l) ∧ Aside0 (Below wz.heap.size wz wx) ∧ Aside0 (∀ z ∈ l, insF nf L1.length lk L3.length ng z.f0 z.f1 z.f2 z.f3 = 0))
                case first =>
                  go_wp2
                  go_loopw [11, 117] (fun v11 v117 wr => ∃ (j : Nat) (v : Value) (l : List S128), v11 = v ∧ v117 = .int .i64 j ∧ j ≤ ng ∧ Aside0 (l.length = j) ∧ Aside0 (Kd.R k128 128 wr wz.heap.size (fun _ => True) v l) ∧ Aside0 (Below wz.heap.size wz wr) ∧ Aside0 (∀ z ∈ l, insF nf L1.length lk L3.length ng z.f0 z.f1 z.f2 z.f3 = 0)) (fun _ v _ => ng - (intOf v).toNat)
                  case atStart => exact ⟨0, _, [], rfl, rfl, by omega, ⟨rfl⟩, HV, HBz, ⟨fun z h => absurd h (by simp)⟩⟩
                  case round =>
                    clear HV HBz
                    obtain ⟨j, v, l, e11, rfl, hj, HLL, HV, HBz, HZ⟩ := hrel
                    obtain ⟨Aw, cw, rfl⟩ := Kd.R_slice HV.out
                    subst e11
                    by_cases h4 : ng ≤ j
                    · have h5 : ¬ (j : Int) < ng := by omega
                      go_wp2
                      go_meet
                      exact ⟨_, l, rfl, ⟨by have := HLL.out; omega⟩, HV, HBz, HZ⟩
                    obtain ⟨ad2, ead, x0, x1, x2, x3⟩ := at_T128 HG.out (j : Int) (by omega) (by omega)
                    subst ead
                    replace x0 := pw_cell_below HBz.out x0
                    replace x1 := pw_cell_below HBz.out x1
                    replace x2 := pw_cell_below HBz.out x2
                    replace x3 := pw_cell_below HBz.out x3
                    generalize rd_T128 gs (j : Int) = q at x0 x1 x2 x3
                    simp only [Int.toNat_natCast] at x0 x1 x2 x3
                    have h5 : (j : Int) < ng := by omega
                    go_upto_region 28 with ((with_reducible refine gate_dst (N := 13) rfl ?_); refine box_event ?hg (N := 13) ?hd (cs := #[.int .i64 0, .int .i64 0, .int .i64 0, .int .i64 0]) (t := 128) ?hr ?_; (case hd => rfl); (case hg => rfl); (case hr => first | (go_simp; done) | (go_simp; rfl)); intro gd hg w4 hbox hb; have HV2 := Aside0.mk (Kd.R_below (Kd.R_elderB HV.out gd (by omega)) hb); have GD : Aside0 (wz.heap.size ≤ gd) := ⟨by have := HBz.out.size; omega⟩; have HB2 := Aside0.mk (below_then HBz.out HBz.out.size hb); clear HV HBz hb hg x0 x1 x2 x3; have HV := HV2; have HBz := HB2; clear HV2 HB2; have BD := Aside0.mk hbox; clear hbox; have f0 := blk_frozen BD.out 0; have f1 := blk_frozen BD.out 1; have f2 := blk_frozen BD.out 2; have f3 := blk_frozen BD.out 3; have e0 : w4.cell? ⟨gd, 0, none⟩ = some (.int .i64 0) := (blk_cell BD.out 0).trans rfl; have e1 : w4.cell? ⟨gd, 1, none⟩ = some (.int .i64 0) := (blk_cell BD.out 1).trans rfl; have e2 : w4.cell? ⟨gd, 2, none⟩ = some (.int .i64 0) := (blk_cell BD.out 2).trans rfl; have e3 : w4.cell? ⟨gd, 3, none⟩ = some (.int .i64 0) := (blk_cell BD.out 3).trans rfl)
                    have BD2 := Aside0.mk (four_set BD.out (.int .i64 q.f0) (.int .i64 q.f1) (.int .i64 q.f2) (.int .i64 q.f3))
                    have HB2 := Aside0.mk (four_below HBz.out GD.out (.int .i64 q.f0) (.int .i64 q.f1) (.int .i64 q.f2) (.int .i64 q.f3))
                    have HV2 := Aside0.mk (Kd.R_mono (Kd.R_far (p := ⟨gd, 3, none⟩) (Kd.R_far (p := ⟨gd, 2, none⟩) (Kd.R_far (p := ⟨gd, 1, none⟩) (Kd.R_far (p := ⟨gd, 0, none⟩) HV.out (fun _ hk => hk.2) (.int .i64 q.f0)) (fun _ hk => hk.2) (.int .i64 q.f1)) (fun _ hk => hk.2) (.int .i64 q.f2)) (fun _ hk => hk.2) (.int .i64 q.f3)) (ok' := fun _ => True) (fun _ _ => trivial))
                    clear HV HBz BD f0 f1 f2 f3 e0 e1 e2 e3
                    have HV := HV2
                    have HBz := HB2
                    have BD := BD2
                    clear HV2 HB2 BD2
                    generalize ((((w4.setCell ⟨gd, 0, none⟩ (.int .i64 q.f0)).setCell ⟨gd, 1, none⟩ (.int .i64 q.f1)).setCell ⟨gd, 2, none⟩ (.int .i64 q.f2)).setCell ⟨gd, 3, none⟩ (.int .i64 q.f3)) = w5 at HV HBz BD ⊢
                    have x0 : w5.cell? ⟨gd, 0, none⟩ = some (.int .i64 q.f0) := (blk_cell BD.out 0).trans rfl
                    have x1 : w5.cell? ⟨gd, 1, none⟩ = some (.int .i64 q.f1) := (blk_cell BD.out 1).trans rfl
                    have x2 : w5.cell? ⟨gd, 2, none⟩ = some (.int .i64 q.f2) := (blk_cell BD.out 2).trans rfl
                    have x3 : w5.cell? ⟨gd, 3, none⟩ = some (.int .i64 q.f3) := (blk_cell BD.out 3).trans rfl
                    have o0 : w5.cell? ⟨go, 0, none⟩ = some (.slice (some ⟨g0, 0, none⟩) nf cap0) := (blk_cell (HS.out.below HBz.out).BO 0).trans rfl
                    have o1 : w5.cell? ⟨go, 1, none⟩ = some (.slice Av L1.length cv) := (blk_cell (HS.out.below HBz.out).BO 1).trans rfl
                    have o2 : w5.cell? ⟨go, 2, none⟩ = some (.int .i64 lk) := (blk_cell (HS.out.below HBz.out).BO 2).trans rfl
                    have o3 : w5.cell? ⟨go, 3, none⟩ = some (.slice A3' L3.length c3') := (blk_cell (HS.out.below HBz.out).BO 3).trans rfl
                    have hlk := modF_in (n := locks) (m := 4) (by decide) (by decide)
                    rw [HL.out] at hlk
                    have hfew : Few nf L1.length L3.length ng lk := ⟨by omega, by have := HL1.out; omega, by have := HL3.out; omega, by omega, by omega⟩
                    clear hlk
                    have HFEW := Aside0.mk hfew
                    clear hfew
                    go_wp2_with (first
                      | (go_at_call 70; (with_reducible refine (fit_calls nf L1.length L3.length ng _ _ _ _ _ _ _ _ lk q.f0 q.f1 q.f2 q.f3 HFEW.out _).mono ?_); rintro e w6 ⟨r0, r1, r2, r3, rfl, hb, hz⟩; have HV2 := Aside0.mk (Kd.R_below HV.out hb); have HB2 := Aside0.mk (below_then HBz.out HBz.out.size hb); clear HV HBz BD hb x0 x1 x2 x3 o0 o1 o2 o3; have HV := HV2; have HBz := HB2; clear HV2 HB2; have HZ2 := Aside0.mk hz; clear hz)
                      | ((with_reducible refine gate_builtin (b := .append) (xs := #[.tmp 121, .tmp 126]) rfl ?_); at_builtin; refine Kd.R_append k128 (w0 := wz) wz.heap.size rfl (.tmp 121) (.tmp 126) 125 128 (.agg #[(.int .i64 0), (.int .i64 0), (.int .i64 0), (.int .i64 0)]) 32 rfl Try.underlying125 info128 rfl (by decide) (by omega) (.slice Aw l.length cw) l (⟨r0, r1, r2, r3⟩ : S128) [.int .i64 r0, .int .i64 r1, .int .i64 r2, .int .i64 r3] (fun _ => True) (fun _ => False) rfl (by first | (go_simp; done) | (go_simp; rfl)) (k128_mkM _ _ _ (⟨r0, r1, r2, r3⟩ : S128)) (fun _ hk => hk.elim) (fun _ _ => trivial) HV.out HBz.out HBz.out.size (by have := HLL.out; omega) ?_; intro v4 w7 ho hb7 hg hat; clear hat hg; obtain ⟨l2, hl2⟩ : ∃ l2, l ++ [(⟨r0, r1, r2, r3⟩ : S128)] = l2 := ⟨_, rfl⟩; rw [hl2] at ho; have HLL2 := Aside0.mk (show l2.length = j + 1 by rw [← hl2, List.length_append, HLL.out]; rfl); have HZ3 := Aside0.mk (show ∀ z ∈ l2, insF nf L1.length lk L3.length ng z.f0 z.f1 z.f2 z.f3 = 0 by rw [← hl2]; intro z hz; rcases List.mem_append.1 hz with h | h; exact HZ.out z h; rw [List.mem_singleton.1 h]; exact HZ2.out); clear hl2; have HV2 := Aside0.mk ho; have HB2 := Aside0.mk hb7; clear ho hb7))
                    refine ⟨⟨j + 1, v4, l2, rfl, by simp, by omega, HLL2, HV2, HB2, HZ3⟩, by simp [intOf]; omega⟩
                case rest =>
                  clear HV HBz
                  obtain ⟨v, l, e11, HLL, HV, HBz, HZ⟩ := hcut
                  obtain ⟨Aw, cw, rfl⟩ := Kd.R_slice HV.out
                  subst e11
                  obtain ⟨⟨u, y0⟩, yf0, hs⟩ := HS.out.row HBz.out HV.out (show i < nf by omega)
                  have o0 : wc.cell? ⟨go, 0, none⟩ = some (.slice (some ⟨g0, 0, none⟩) nf cap0) := (blk_cell (HS.out.below HBz.out).BO 0).trans rfl
                  clear HS
                  have HS := Aside0.mk hs
                  clear hs
                  have h1 : i < nf := by omega
                  go_wp2
                  have HR2 := Aside0.mk (show ∀ j, j < i + 1 → rowOk nf L1.length lk L3.length (rd_L5 (L0'.set i l) (j : Nat)) by
                    intro j hj
                    have hl0 := HL0'.out
                    by_cases e : j = i
                    · subst e
                      have e2 : rd_L5 (L0'.set j l) (j : Nat) = l := by show (L0'.set j l).getD (j : Int).toNat [] = l; rw [List.getD_eq_getElem?_getD, Int.toNat_natCast, List.getElem?_set_self (by omega)]; rfl
                      rw [e2]
                      have hl := HLL.out
                      exact ⟨by omega, by rw [hl]; exact HZ.out⟩
                    · have e2 : rd_L5 (L0'.set i l) (j : Nat) = rd_L5 L0' (j : Nat) := by show (L0'.set i l).getD (j : Int).toNat [] = L0'.getD (j : Int).toNat []; rw [List.getD_eq_getElem?_getD, List.getD_eq_getElem?_getD, Int.toNat_natCast, List.getElem?_set_ne (by omega)]
                      rw [e2]
                      exact HR.out j (by omega))
                  refine ⟨⟨i + 1, L0'.set i l, by simp, by omega, ⟨by rw [List.length_set]; exact HL0'.out⟩, HS, HR2, ⟨fun hlt => ?_⟩⟩, by simp [intOf]; omega⟩
                  rcases HFS.out with h | h
                  · exact Kd.C_below h HS.out.HB
                  · omega
          case rest =>
            clear HS HL0 HC
            obtain ⟨L0, HL0, HS, HR⟩ := hcut
            have o0 : wc.cell? ⟨go, 0, none⟩ = some (.slice (some ⟨g0, 0, none⟩) nf cap0) := (blk_cell HS.out.BO 0).trans rfl
            have o1 : wc.cell? ⟨go, 1, none⟩ = some (.slice Av L1.length cv) := (blk_cell HS.out.BO 1).trans rfl
            have o2 : wc.cell? ⟨go, 2, none⟩ = some (.int .i64 lk) := (blk_cell HS.out.BO 2).trans rfl
            have o3 : wc.cell? ⟨go, 3, none⟩ = some (.slice A3' L3.length c3') := (blk_cell HS.out.BO 3).trans rfl
            have r0 : wc.cell? ⟨w.heap.size + 1, 0, none⟩ = some (.slice none 0 0) := (blk_cell HS.out.BR 0).trans rfl
            have r1 : wc.cell? ⟨w.heap.size + 1, 1, none⟩ = some (.slice none 0 0) := (blk_cell HS.out.BR 1).trans rfl
            have r2 : wc.cell? ⟨w.heap.size + 1, 2, none⟩ = some (.int .i64 0) := (blk_cell HS.out.BR 2).trans rfl
            have r3 : wc.cell? ⟨w.heap.size + 1, 3, none⟩ = some (.slice none 0 0) := (blk_cell HS.out.BR 3).trans rfl
            have f0 := blk_frozen HS.out.BR 0
            have f1 := blk_frozen HS.out.BR 1
            have f2 := blk_frozen HS.out.BR 2
            have f3 := blk_frozen HS.out.BR 3
            go_wp2
            obtain ⟨hb, h0, h1, h3, hbl⟩ := HS.out.fin (.slice (some ⟨g0, 0, none⟩) nf cap0) (.slice Av L1.length cv) (.int .i64 lk) (.slice A3' L3.length c3') _ rfl
            have hlk := modF_in (n := locks) (m := 4) (by decide) (by decide)
            rw [HL.out] at hlk
            have hrow := HR.out
            have hl0 := HL0.out
            rw [← hl0] at hrow
            refine bodyPost_ret (results_cell_row rfl _ _ (w.heap.size + 1) 112 #[.slice (some ⟨g0, 0, none⟩) nf cap0, .slice Av L1.length cv, .int .i64 lk, .slice A3' L3.length c3'] (0, 0) _ rfl hb Try.underlying112 rfl (by kernel_rfl)) rfl ?_
            exact ⟨_, _, _, L0, L1, lk, rfl, h0, h1, L3, h3, hbl, ok_of (by omega) HL1.out HL3.out hlk HIN.out HIN3.out hrow⟩
end Go.Proofs.Ythlllcmffgdcmab.Code
end

/- An instruction's fields, so that it may be: more of the walk. -/
import Derived.Test.YthlllcmffgdcmabZFit0
section
namespace Go.Proofs.Ythlllcmffgdcmab.Code
open Go.RowKit Go.Proofs.YthlllcmffgdcmabW.PrintWords Go.Proofs.YthlllcmffgdcmabW.PrintLast Go.Proofs.YthlllcmffgdcmabW.PrintMore
set_option linter.unusedVariables false
set_option linter.unusedSimpArgs false
set_option maxHeartbeats 8000000 in
set_option maxRecDepth 100000 in
theorem fit_d (nf nc ncs nfl : Nat) (A0 A1 A2 A3 : Option Addr) (c0 c1 c2 c3 : Nat) (locks op a b c : Int) (o : Int) (ho : modF op 23 = o) (hk : o = 13 ∨ o = 14 ∨ o = 15) (hn : Few nf nc ncs nfl locks) (w : World) :
    Calls Try.prog 70 #[.agg #[.slice A0 nf c0, .slice A1 nc c1, .int .i64 locks, .slice A3 ncs c3], .slice A2 nfl c2, .agg #[.int .i64 op, .int .i64 a, .int .i64 b, .int .i64 c]] w fun e w' => ∃ r0 r1 r2 r3, e = .returned (.agg #[.int .i64 r0, .int .i64 r1, .int .i64 r2, .int .i64 r3]) ∧ Below w.heap.size w w' ∧ insF nf nc locks ncs nfl r0 r1 r2 r3 = 0 := by
  have HN := Aside0.mk hn
  have HK := Aside0.mk hk
  clear hn hk
  obtain ⟨a8, ha⟩ : ∃ r, modF a 8 = r := ⟨_, rfl⟩
  obtain ⟨b8, hbb⟩ : ∃ r, modF b 8 = r := ⟨_, rfl⟩
  obtain ⟨c8, hc⟩ : ∃ r, modF c 8 = r := ⟨_, rfl⟩
  have HOP := Aside0.mk ho
  have HA := Aside0.mk ha
  have HBB := Aside0.mk hbb
  have HC := Aside0.mk hc
  clear ho ha hbb hc
  have HB := Aside0.mk (fW_below w #[.slice A0 nf c0, .slice A1 nc c1, .int .i64 locks, .slice A3 ncs c3] #[.int .i64 op, .int .i64 a, .int .i64 b, .int .i64 c])
  have BP := Aside0.mk (fW_p w #[.slice A0 nf c0, .slice A1 nc c1, .int .i64 locks, .slice A3 ncs c3] #[.int .i64 op, .int .i64 a, .int .i64 b, .int .i64 c])
  have BX := Aside0.mk (fW_x w #[.slice A0 nf c0, .slice A1 nc c1, .int .i64 locks, .slice A3 ncs c3] #[.int .i64 op, .int .i64 a, .int .i64 b, .int .i64 c])
  have BR := Aside0.mk (fW_r w #[.slice A0 nf c0, .slice A1 nc c1, .int .i64 locks, .slice A3 ncs c3] #[.int .i64 op, .int .i64 a, .int .i64 b, .int .i64 c])
  go_enter Try.func70, Try.ntmps70
  go_upto_region 1 with (fail)
  change Code.wp _ _ _ _ (fW w #[.slice A0 nf c0, .slice A1 nc c1, .int .i64 locks, .slice A3 ncs c3] #[.int .i64 op, .int .i64 a, .int .i64 b, .int .i64 c])
  generalize fW w #[.slice A0 nf c0, .slice A1 nc c1, .int .i64 locks, .slice A3 ncs c3] #[.int .i64 op, .int .i64 a, .int .i64 b, .int .i64 c] = w2 at HB BP BX BR ⊢
  have x0 : w2.cell? ⟨w.heap.size + 1, 0, none⟩ = some (.int .i64 op) := (blk_cell BX.out 0).trans rfl
  have x1 : w2.cell? ⟨w.heap.size + 1, 1, none⟩ = some (.int .i64 a) := (blk_cell BX.out 1).trans rfl
  have x2 : w2.cell? ⟨w.heap.size + 1, 2, none⟩ = some (.int .i64 b) := (blk_cell BX.out 2).trans rfl
  have x3 : w2.cell? ⟨w.heap.size + 1, 3, none⟩ = some (.int .i64 c) := (blk_cell BX.out 3).trans rfl
  have g0 := blk_frozen BX.out 0
  go_upto_region 2 with ((go_at_call 54; (with_reducible refine (mod_calls op 23 _ HOP.out _).mono ?_); rintro e w' ⟨rfl, hb⟩; (first | replace hb := below_norm hb | skip); have HB2 : Aside0 (Below w.heap.size w w') := ⟨by first | exact below_then HB.out HB.out.size hb | exact below_then HB.out.drew HB.out.drew.size hb⟩; have BPn := Aside0.mk (blk_below BP.out hb); have BXn := Aside0.mk (blk_below BX.out hb); have BRn := Aside0.mk (blk_below BR.out hb); have x0n := pw_cell_below hb x0; have x1n := pw_cell_below hb x1; have x2n := pw_cell_below hb x2; have x3n := pw_cell_below hb x3; clear HB BP BX BR x0 x1 x2 x3 g0; have HB := HB2; have BP := BPn; have BX := BXn; have BR := BRn; have x0 := x0n; have x1 := x1n; have x2 := x2n; have x3 := x3n; have g0 := blk_frozen BX.out 0; clear HB2 hb BPn BXn BRn x0n x1n x2n x3n))
  clear x0 x1 x2 x3 g0
  have BP1 := Aside0.mk (show (w'.setCell ⟨w.heap.size + 1, 0, none⟩ (.int .i64 o)).heap[w.heap.size]? = some (.cells #[.slice A0 nf c0, .slice A1 nc c1, .int .i64 locks, .slice A3 ncs c3] 112 (0, 0)) from blk_far BP.out (show w.heap.size ≠ w.heap.size + 1 by omega) _)
  have BR1 := Aside0.mk (show (w'.setCell ⟨w.heap.size + 1, 0, none⟩ (.int .i64 o)).heap[w.heap.size + 1 + 1]? = some (.cells #[.int .i64 0, .int .i64 0, .int .i64 0, .int .i64 0] 128 (0, 0)) from blk_far BR.out (show w.heap.size + 1 + 1 ≠ w.heap.size + 1 by omega) _)
  have BX1 := Aside0.mk (show (w'.setCell ⟨w.heap.size + 1, 0, none⟩ (.int .i64 o)).heap[w.heap.size + 1]? = some (.cells #[.int .i64 o, .int .i64 a, .int .i64 b, .int .i64 c] 128 (0, 0)) by simpa using blk_set BX.out 0 (.int .i64 o))
  have HB1 := Aside0.mk (show Below w.heap.size w (w'.setCell ⟨w.heap.size + 1, 0, none⟩ (.int .i64 o)) from HB.out.setCell (show w.heap.size ≤ w.heap.size + 1 by omega) _)
  clear BP BR BX HB
  have BP := BP1
  have BR := BR1
  have BX := BX1
  have HB := HB1
  clear BP1 BR1 BX1 HB1
  change Code.wp _ _ _ _ (w'.setCell ⟨w.heap.size + 1, 0, none⟩ (.int .i64 o))
  generalize (w'.setCell ⟨w.heap.size + 1, 0, none⟩ (.int .i64 o)) = w3 at BP BR BX HB ⊢
  have p0 : w3.cell? ⟨w.heap.size, 0, none⟩ = some (.slice A0 nf c0) := (blk_cell BP.out 0).trans rfl
  have x0 : w3.cell? ⟨w.heap.size + 1, 0, none⟩ = some (.int .i64 o) := (blk_cell BX.out 0).trans rfl
  have p1 : w3.cell? ⟨w.heap.size, 1, none⟩ = some (.slice A1 nc c1) := (blk_cell BP.out 1).trans rfl
  have x1 : w3.cell? ⟨w.heap.size + 1, 1, none⟩ = some (.int .i64 a) := (blk_cell BX.out 1).trans rfl
  have p2 : w3.cell? ⟨w.heap.size, 2, none⟩ = some (.int .i64 locks) := (blk_cell BP.out 2).trans rfl
  have x2 : w3.cell? ⟨w.heap.size + 1, 2, none⟩ = some (.int .i64 b) := (blk_cell BX.out 2).trans rfl
  have p3 : w3.cell? ⟨w.heap.size, 3, none⟩ = some (.slice A3 ncs c3) := (blk_cell BP.out 3).trans rfl
  have x3 : w3.cell? ⟨w.heap.size + 1, 3, none⟩ = some (.int .i64 c) := (blk_cell BX.out 3).trans rfl
  go_cut [7, 8, 9] (fun v7 v8 v9 wx => v7 = .int .i64 a8 ∧ v8 = .int .i64 b8 ∧ v9 = .int .i64 c8 ∧ Aside0 (wx.heap[w.heap.size]? = some (.cells #[.slice A0 nf c0, .slice A1 nc c1, .int .i64 locks, .slice A3 ncs c3] 112 (0, 0))) ∧ Aside0 (wx.heap[w.heap.size + 1]? = some (.cells #[.int .i64 o, .int .i64 a, .int .i64 b, .int .i64 c] 128 (0, 0))) ∧ Aside0 (wx.heap[w.heap.size + 1 + 1]? = some (.cells #[.int .i64 0, .int .i64 0, .int .i64 0, .int .i64 0] 128 (0, 0))) ∧ Aside0 (Below w.heap.size w wx))
  case first =>
    refine wp_region_noPanic ?_
    refine start_ (n := 12) (S := (fun w' => w'.cell? ⟨w.heap.size + 1, 1, none⟩ = some (.int .i64 a) ∧ w'.cell? ⟨w.heap.size + 1, 2, none⟩ = some (.int .i64 b) ∧ w'.cell? ⟨w.heap.size + 1, 3, none⟩ = some (.int .i64 c))) (ds := []) #[false, false, false, false, false, false, false, false, false, false, false, false] (by kernel_rfl) rfl rfl (by (try dsimp only); exact ⟨(blk_cell BX.out 1).trans rfl, (blk_cell BX.out 2).trans rfl, (blk_cell BX.out 3).trans rfl⟩) (fun hHeld => ?_)
    refine with_tab fit2_tab (fun HT_ => ?_)
    have BP2 := Aside0.mk (blk_drew BP.out)
    clear BP
    have BP := BP2
    clear BP2
    have BX2 := Aside0.mk (blk_drew BX.out)
    clear BX
    have BX := BX2
    clear BX2
    have BR2 := Aside0.mk (blk_drew BR.out)
    clear BR
    have BR := BR2
    clear BR2
    have HB2 := Aside0.mk HB.out.drew
    clear HB
    have HB := HB2
    clear HB2
    generalize w3.drew = w0d at BP BX BR HB hHeld ⊢
    refine take_ (i := 0) (N := some 19) (v := ?_) (a' := ?_) #[true, false, false, false, false, false, false, false, false, false, false, false] rfl rfl (take_of HT_.out (by kernel_rfl)) (fun _ _ _ h => h) (Or.inl ⟨by first | rfl | (go_simp; done), ?_⟩) hHeld ?_ ?_
    rotate_left
    · rintro w' ⟨s0, s1, s2⟩
      go_simp
      try (with_reducible rfl)
    rotate_left
    · simp only [Act.put, List.setIfInBounds_toArray, List.set_cons_zero, List.set_cons_succ]
      rfl
    refine take_ (i := 1) (N := some 20) (v := ?_) (a' := ?_) #[true, true, false, false, false, false, false, false, false, false, false, false] rfl rfl (take_of HT_.out (by kernel_rfl)) (fun _ _ _ h => h) (Or.inl ⟨by first | rfl | (go_simp; done), ?_⟩) hHeld ?_ ?_
    rotate_left
    · rintro w' ⟨s0, s1, s2⟩
      go_simp
      try (with_reducible rfl)
    rotate_left
    · simp only [Act.put, List.setIfInBounds_toArray, List.set_cons_zero, List.set_cons_succ]
      rfl
    refine take_ (i := 3) (N := some 22) (v := ?_) (a' := ?_) #[true, true, false, true, false, false, false, false, false, false, false, false] rfl rfl (take_of HT_.out (by kernel_rfl)) (fun _ _ _ h => h) (Or.inl ⟨by first | rfl | (go_simp; done), ?_⟩) hHeld ?_ ?_
    rotate_left
    · rintro w' ⟨s0, s1, s2⟩
      go_simp
      try (with_reducible rfl)
    rotate_left
    · simp only [Act.put, List.setIfInBounds_toArray, List.set_cons_zero, List.set_cons_succ]
      rfl
    refine take_ (i := 4) (N := some 23) (v := ?_) (a' := ?_) #[true, true, false, true, true, false, false, false, false, false, false, false] rfl rfl (take_of HT_.out (by kernel_rfl)) (fun _ _ _ h => h) (Or.inl ⟨by first | rfl | (go_simp; done), ?_⟩) hHeld ?_ ?_
    rotate_left
    · rintro w' ⟨s0, s1, s2⟩
      go_simp
      try (with_reducible rfl)
    rotate_left
    · simp only [Act.put, List.setIfInBounds_toArray, List.set_cons_zero, List.set_cons_succ]
      rfl
    refine take_ (i := 6) (N := some 25) (v := ?_) (a' := ?_) #[true, true, false, true, true, false, true, false, false, false, false, false] rfl rfl (take_of HT_.out (by kernel_rfl)) (fun _ _ _ h => h) (Or.inl ⟨by first | rfl | (go_simp; done), ?_⟩) hHeld ?_ ?_
    rotate_left
    · rintro w' ⟨s0, s1, s2⟩
      go_simp
      try (with_reducible rfl)
    rotate_left
    · simp only [Act.put, List.setIfInBounds_toArray, List.set_cons_zero, List.set_cons_succ]
      rfl
    refine take_ (i := 7) (N := some 26) (v := ?_) (a' := ?_) #[true, true, false, true, true, false, true, true, false, false, false, false] rfl rfl (take_of HT_.out (by kernel_rfl)) (fun _ _ _ h => h) (Or.inl ⟨by first | rfl | (go_simp; done), ?_⟩) hHeld ?_ ?_
    rotate_left
    · rintro w' ⟨s0, s1, s2⟩
      go_simp
      try (with_reducible rfl)
    rotate_left
    · simp only [Act.put, List.setIfInBounds_toArray, List.set_cons_zero, List.set_cons_succ]
      rfl
    refine one_ (i := 2) (N := some 21) #[true, true, true, true, true, false, true, true, false, false, false, false] rfl rfl (one_of HT_.out (by kernel_rfl)) (by decide) (fun K hK => ?_)
    go_simp
    (with_reducible refine (mod_calls a 8 _ HA.out _).mono ?_)
    rintro e wb ⟨rfl, hb⟩
    have BP2 := Aside0.mk (blk_below BP.out hb)
    clear BP
    have BP := BP2
    clear BP2
    have BX2 := Aside0.mk (blk_below BX.out hb)
    clear BX
    have BX := BX2
    clear BX2
    have BR2 := Aside0.mk (blk_below BR.out hb)
    clear BR
    have BR := BR2
    clear BR2
    have HB2 := Aside0.mk (below_then HB.out HB.out.size hb)
    clear HB hb
    have HB := HB2
    clear HB2
    refine hK.out _ _ (by (try dsimp only); exact ⟨(blk_cell BX.out 1).trans rfl, (blk_cell BX.out 2).trans rfl, (blk_cell BX.out 3).trans rfl⟩) (fun hHeld2 => ?_)
    clear hK K hHeld
    have hHeld := hHeld2
    clear hHeld2
    try simp only [Act.put, List.setIfInBounds_toArray, List.set_cons_zero, List.set_cons_succ]
    refine one_ (i := 5) (N := some 24) #[true, true, true, true, true, true, true, true, false, false, false, false] rfl rfl (one_of HT_.out (by kernel_rfl)) (by decide) (fun K hK => ?_)
    go_simp
    (with_reducible refine (mod_calls b 8 _ HBB.out _).mono ?_)
    rintro e wb ⟨rfl, hb⟩
    have BP2 := Aside0.mk (blk_below BP.out hb)
    clear BP
    have BP := BP2
    clear BP2
    have BX2 := Aside0.mk (blk_below BX.out hb)
    clear BX
    have BX := BX2
    clear BX2
    have BR2 := Aside0.mk (blk_below BR.out hb)
    clear BR
    have BR := BR2
    clear BR2
    have HB2 := Aside0.mk (below_then HB.out HB.out.size hb)
    clear HB hb
    have HB := HB2
    clear HB2
    refine hK.out _ _ (by (try dsimp only); exact ⟨(blk_cell BX.out 1).trans rfl, (blk_cell BX.out 2).trans rfl, (blk_cell BX.out 3).trans rfl⟩) (fun hHeld2 => ?_)
    clear hK K hHeld
    have hHeld := hHeld2
    clear hHeld2
    try simp only [Act.put, List.setIfInBounds_toArray, List.set_cons_zero, List.set_cons_succ]
    refine one_ (i := 8) (N := some 27) #[true, true, true, true, true, true, true, true, true, false, false, false] rfl rfl (one_of HT_.out (by kernel_rfl)) (by decide) (fun K hK => ?_)
    go_simp
    (with_reducible refine (mod_calls c 8 _ HC.out _).mono ?_)
    rintro e wb ⟨rfl, hb⟩
    have BP2 := Aside0.mk (blk_below BP.out hb)
    clear BP
    have BP := BP2
    clear BP2
    have BX2 := Aside0.mk (blk_below BX.out hb)
    clear BX
    have BX := BX2
    clear BX2
    have BR2 := Aside0.mk (blk_below BR.out hb)
    clear BR
    have BR := BR2
    clear BR2
    have HB2 := Aside0.mk (below_then HB.out HB.out.size hb)
    clear HB hb
    have HB := HB2
    clear HB2
    refine hK.out _ _ (by (try dsimp only); exact ⟨(blk_cell BX.out 1).trans rfl, (blk_cell BX.out 2).trans rfl, (blk_cell BX.out 3).trans rfl⟩) (fun hHeld2 => ?_)
    clear hK K hHeld
    have hHeld := hHeld2
    clear hHeld2
    try simp only [Act.put, List.setIfInBounds_toArray, List.set_cons_zero, List.set_cons_succ]
    refine take_ (i := 9) (N := some 7) (v := ?_) (a' := ?_) #[true, true, true, true, true, true, true, true, true, true, false, false] rfl rfl (take_of HT_.out (by kernel_rfl)) (fun _ _ _ h => h) (Or.inl ⟨by first | rfl | (go_simp; done), ?_⟩) hHeld ?_ ?_
    rotate_left
    · rintro w' ⟨s0, s1, s2⟩
      go_simp
      try (with_reducible rfl)
    rotate_left
    · simp only [Act.put, List.setIfInBounds_toArray, List.set_cons_zero, List.set_cons_succ]
      rfl
    refine take_ (i := 10) (N := some 8) (v := ?_) (a' := ?_) #[true, true, true, true, true, true, true, true, true, true, true, false] rfl rfl (take_of HT_.out (by kernel_rfl)) (fun _ _ _ h => h) (Or.inl ⟨by first | rfl | (go_simp; done), ?_⟩) hHeld ?_ ?_
    rotate_left
    · rintro w' ⟨s0, s1, s2⟩
      go_simp
      try (with_reducible rfl)
    rotate_left
    · simp only [Act.put, List.setIfInBounds_toArray, List.set_cons_zero, List.set_cons_succ]
      rfl
    refine take_ (i := 11) (N := some 9) (v := ?_) (a' := ?_) #[true, true, true, true, true, true, true, true, true, true, true, true] rfl rfl (take_of HT_.out (by kernel_rfl)) (fun _ _ _ h => h) (Or.inl ⟨by first | rfl | (go_simp; done), ?_⟩) hHeld ?_ ?_
    rotate_left
    · rintro w' ⟨s0, s1, s2⟩
      go_simp
      try (with_reducible rfl)
    rotate_left
    · simp only [Act.put, List.setIfInBounds_toArray, List.set_cons_zero, List.set_cons_succ]
      rfl
    refine done_ (done_of HT_.out (by kernel_rfl)) ?_
    refine NoPanic.normal ?_
    go_wp2
    go_meet
    exact ⟨rfl, rfl, rfl, BP, BX, BR, HB⟩
  case rest =>
    obtain ⟨rfl, rfl, rfl, BP, BX, BR, HB⟩ := hcut
    go_upto_region 3 with (fail)
    go_cut [10, 11, 12] (fun v10 v11 v12 wx => v10 = .int .i64 nf ∧ v11 = .int .i64 nc ∧ v12 = .int .i64 ncs ∧ Aside0 (wx.heap[w.heap.size]? = some (.cells #[.slice A0 nf c0, .slice A1 nc c1, .int .i64 locks, .slice A3 ncs c3] 112 (0, 0))) ∧ Aside0 (wx.heap[w.heap.size + 1]? = some (.cells #[.int .i64 o, .int .i64 a, .int .i64 b, .int .i64 c] 128 (0, 0))) ∧ Aside0 (wx.heap[w.heap.size + 1 + 1]? = some (.cells #[.int .i64 0, .int .i64 0, .int .i64 0, .int .i64 0] 128 (0, 0))) ∧ Aside0 (Below w.heap.size w wx))
    case first =>
      refine wp_region_noPanic ?_
      refine start_ (n := 12) (S := (fun w' => w'.cell? ⟨w.heap.size, 0, none⟩ = some (.slice A0 nf c0) ∧ w'.cell? ⟨w.heap.size, 1, none⟩ = some (.slice A1 nc c1) ∧ w'.cell? ⟨w.heap.size, 3, none⟩ = some (.slice A3 ncs c3))) (ds := []) #[false, false, false, false, false, false, false, false, false, false, false, false] (by kernel_rfl) rfl rfl (by (try dsimp only); exact ⟨(blk_cell BP.out 0).trans rfl, (blk_cell BP.out 1).trans rfl, (blk_cell BP.out 3).trans rfl⟩) (fun hHeld => ?_)
      refine with_tab fit3_tab (fun HT_ => ?_)
      have BP2 := Aside0.mk (blk_drew BP.out)
      clear BP
      have BP := BP2
      clear BP2
      have BX2 := Aside0.mk (blk_drew BX.out)
      clear BX
      have BX := BX2
      clear BX2
      have BR2 := Aside0.mk (blk_drew BR.out)
      clear BR
      have BR := BR2
      clear BR2
      have HB2 := Aside0.mk HB.out.drew
      clear HB
      have HB := HB2
      clear HB2
      generalize wc.drew = w0d at BP BX BR HB hHeld ⊢
      refine take_ (i := 0) (N := some 28) (v := ?_) (a' := ?_) #[true, false, false, false, false, false, false, false, false, false, false, false] rfl rfl (take_of HT_.out (by kernel_rfl)) (fun _ _ _ h => h) (Or.inl ⟨by first | rfl | (go_simp; done), ?_⟩) hHeld ?_ ?_
      rotate_left
      · rintro w' ⟨s0, s1, s2⟩
        go_simp
        try (with_reducible rfl)
      rotate_left
      · simp only [Act.put, List.setIfInBounds_toArray, List.set_cons_zero, List.set_cons_succ]
        rfl
      refine take_ (i := 1) (N := some 29) (v := ?_) (a' := ?_) #[true, true, false, false, false, false, false, false, false, false, false, false] rfl rfl (take_of HT_.out (by kernel_rfl)) (fun _ _ _ h => h) (Or.inl ⟨by first | rfl | (go_simp; done), ?_⟩) hHeld ?_ ?_
      rotate_left
      · rintro w' ⟨s0, s1, s2⟩
        go_simp
        try (with_reducible rfl)
      rotate_left
      · simp only [Act.put, List.setIfInBounds_toArray, List.set_cons_zero, List.set_cons_succ]
        rfl
      refine take_ (i := 2) (N := some 30) (v := ?_) (a' := ?_) #[true, true, true, false, false, false, false, false, false, false, false, false] rfl rfl (take_of HT_.out (by kernel_rfl)) (fun _ _ _ h => h) (Or.inl ⟨by first | rfl | (go_simp; done), ?_⟩) hHeld ?_ ?_
      rotate_left
      · rintro w' ⟨s0, s1, s2⟩
        go_simp
        try (with_reducible rfl)
      rotate_left
      · simp only [Act.put, List.setIfInBounds_toArray, List.set_cons_zero, List.set_cons_succ]
        rfl
      refine take_ (i := 3) (N := some 31) (v := ?_) (a' := ?_) #[true, true, true, true, false, false, false, false, false, false, false, false] rfl rfl (take_of HT_.out (by kernel_rfl)) (fun _ _ _ h => h) (Or.inl ⟨by first | rfl | (go_simp; done), ?_⟩) hHeld ?_ ?_
      rotate_left
      · rintro w' ⟨s0, s1, s2⟩
        go_simp
        try (with_reducible rfl)
      rotate_left
      · simp only [Act.put, List.setIfInBounds_toArray, List.set_cons_zero, List.set_cons_succ]
        rfl
      refine take_ (i := 4) (N := some 32) (v := ?_) (a' := ?_) #[true, true, true, true, true, false, false, false, false, false, false, false] rfl rfl (take_of HT_.out (by kernel_rfl)) (fun _ _ _ h => h) (Or.inl ⟨by first | rfl | (go_simp; done), ?_⟩) hHeld ?_ ?_
      rotate_left
      · rintro w' ⟨s0, s1, s2⟩
        go_simp
        try (with_reducible rfl)
      rotate_left
      · simp only [Act.put, List.setIfInBounds_toArray, List.set_cons_zero, List.set_cons_succ]
        rfl
      refine take_ (i := 5) (N := some 33) (v := ?_) (a' := ?_) #[true, true, true, true, true, true, false, false, false, false, false, false] rfl rfl (take_of HT_.out (by kernel_rfl)) (fun _ _ _ h => h) (Or.inl ⟨by first | rfl | (go_simp; done), ?_⟩) hHeld ?_ ?_
      rotate_left
      · rintro w' ⟨s0, s1, s2⟩
        go_simp
        try (with_reducible rfl)
      rotate_left
      · simp only [Act.put, List.setIfInBounds_toArray, List.set_cons_zero, List.set_cons_succ]
        rfl
      refine take_ (i := 6) (N := some 34) (v := ?_) (a' := ?_) #[true, true, true, true, true, true, true, false, false, false, false, false] rfl rfl (take_of HT_.out (by kernel_rfl)) (fun _ _ _ h => h) (Or.inl ⟨by first | rfl | (go_simp; done), ?_⟩) hHeld ?_ ?_
      rotate_left
      · rintro w' ⟨s0, s1, s2⟩
        go_simp
        try (with_reducible rfl)
      rotate_left
      · simp only [Act.put, List.setIfInBounds_toArray, List.set_cons_zero, List.set_cons_succ]
        rfl
      refine take_ (i := 7) (N := some 35) (v := ?_) (a' := ?_) #[true, true, true, true, true, true, true, true, false, false, false, false] rfl rfl (take_of HT_.out (by kernel_rfl)) (fun _ _ _ h => h) (Or.inl ⟨by first | rfl | (go_simp; done), ?_⟩) hHeld ?_ ?_
      rotate_left
      · rintro w' ⟨s0, s1, s2⟩
        go_simp
        try (with_reducible rfl)
      rotate_left
      · simp only [Act.put, List.setIfInBounds_toArray, List.set_cons_zero, List.set_cons_succ]
        rfl
      refine take_ (i := 8) (N := some 36) (v := ?_) (a' := ?_) #[true, true, true, true, true, true, true, true, true, false, false, false] rfl rfl (take_of HT_.out (by kernel_rfl)) (fun _ _ _ h => h) (Or.inl ⟨by first | rfl | (go_simp; done), ?_⟩) hHeld ?_ ?_
      rotate_left
      · rintro w' ⟨s0, s1, s2⟩
        go_simp
        try (with_reducible rfl)
      rotate_left
      · simp only [Act.put, List.setIfInBounds_toArray, List.set_cons_zero, List.set_cons_succ]
        rfl
      refine take_ (i := 9) (N := some 10) (v := ?_) (a' := ?_) #[true, true, true, true, true, true, true, true, true, true, false, false] rfl rfl (take_of HT_.out (by kernel_rfl)) (fun _ _ _ h => h) (Or.inl ⟨by first | rfl | (go_simp; done), ?_⟩) hHeld ?_ ?_
      rotate_left
      · rintro w' ⟨s0, s1, s2⟩
        go_simp
        try (with_reducible rfl)
      rotate_left
      · simp only [Act.put, List.setIfInBounds_toArray, List.set_cons_zero, List.set_cons_succ]
        rfl
      refine take_ (i := 10) (N := some 11) (v := ?_) (a' := ?_) #[true, true, true, true, true, true, true, true, true, true, true, false] rfl rfl (take_of HT_.out (by kernel_rfl)) (fun _ _ _ h => h) (Or.inl ⟨by first | rfl | (go_simp; done), ?_⟩) hHeld ?_ ?_
      rotate_left
      · rintro w' ⟨s0, s1, s2⟩
        go_simp
        try (with_reducible rfl)
      rotate_left
      · simp only [Act.put, List.setIfInBounds_toArray, List.set_cons_zero, List.set_cons_succ]
        rfl
      refine take_ (i := 11) (N := some 12) (v := ?_) (a' := ?_) #[true, true, true, true, true, true, true, true, true, true, true, true] rfl rfl (take_of HT_.out (by kernel_rfl)) (fun _ _ _ h => h) (Or.inl ⟨by first | rfl | (go_simp; done), ?_⟩) hHeld ?_ ?_
      rotate_left
      · rintro w' ⟨s0, s1, s2⟩
        go_simp
        try (with_reducible rfl)
      rotate_left
      · simp only [Act.put, List.setIfInBounds_toArray, List.set_cons_zero, List.set_cons_succ]
        rfl
      refine done_ (done_of HT_.out (by kernel_rfl)) ?_
      refine NoPanic.normal ?_
      go_wp2
      go_meet
      exact ⟨rfl, rfl, rfl, BP, BX, BR, HB⟩
    case rest =>
      obtain ⟨rfl, rfl, rfl, BP2, BX2, BR2, HB2⟩ := hcut
      clear BP BX BR HB
      have BP := BP2
      have BX := BX2
      have BR := BR2
      have HB := HB2
      clear BP2 BX2 BR2 HB2
      clear HOP
      have hk := HK.out
      clear HK
      rcases hk with rfl | rfl | rfl
      · have p0 : wc.cell? ⟨w.heap.size, 0, none⟩ = some (.slice A0 nf c0) := (blk_cell BP.out 0).trans rfl
        have x0 : wc.cell? ⟨w.heap.size + 1, 0, none⟩ = some (.int .i64 13) := (blk_cell BX.out 0).trans rfl
        have r0 : wc.cell? ⟨w.heap.size + 1 + 1, 0, none⟩ = some (.int .i64 0) := (blk_cell BR.out 0).trans rfl
        have p1 : wc.cell? ⟨w.heap.size, 1, none⟩ = some (.slice A1 nc c1) := (blk_cell BP.out 1).trans rfl
        have x1 : wc.cell? ⟨w.heap.size + 1, 1, none⟩ = some (.int .i64 a) := (blk_cell BX.out 1).trans rfl
        have r1 : wc.cell? ⟨w.heap.size + 1 + 1, 1, none⟩ = some (.int .i64 0) := (blk_cell BR.out 1).trans rfl
        have p2 : wc.cell? ⟨w.heap.size, 2, none⟩ = some (.int .i64 locks) := (blk_cell BP.out 2).trans rfl
        have x2 : wc.cell? ⟨w.heap.size + 1, 2, none⟩ = some (.int .i64 b) := (blk_cell BX.out 2).trans rfl
        have r2 : wc.cell? ⟨w.heap.size + 1 + 1, 2, none⟩ = some (.int .i64 0) := (blk_cell BR.out 2).trans rfl
        have p3 : wc.cell? ⟨w.heap.size, 3, none⟩ = some (.slice A3 ncs c3) := (blk_cell BP.out 3).trans rfl
        have x3 : wc.cell? ⟨w.heap.size + 1, 3, none⟩ = some (.int .i64 c) := (blk_cell BX.out 3).trans rfl
        have r3 : wc.cell? ⟨w.heap.size + 1 + 1, 3, none⟩ = some (.int .i64 0) := (blk_cell BR.out 3).trans rfl
        have f0 := blk_frozen BR.out 0
        have f1 := blk_frozen BR.out 1
        have f2 := blk_frozen BR.out 2
        have f3 := blk_frozen BR.out 3
        by_cases hz : (nc : Int) = 0
        · have hzb : ((nc : Int) == 0) = true := beq_iff_eq.2 hz
          go_wp2
          (refine bodyPost_ret (results_cell_row rfl _ _ (w.heap.size + 1 + 1) 128 #[.int .i64 0, .int .i64 0, .int .i64 0, .int .i64 0] (0, 0) _ rfl (four_set BR.out _ _ _ _) Try.underlying128 rfl (by kernel_rfl)) rfl ?_; exact ⟨_, _, _, _, rfl, four_below HB.out (by omega) _ _ _ _, z0_0 _ _ _ _ _⟩)
        have hzb : ((nc : Int) == 0) = false := beq_eq_false_iff_ne.2 hz
        have HZ := Aside0.mk hz
        clear hz
        obtain ⟨ax, hx⟩ : ∃ r, modF a nc = r := ⟨_, rfl⟩
        have HX := Aside0.mk hx
        clear hx
        go_upto_region 30 with (fail)
        clear p0 p1 p2 p3 x0 x1 x2 x3 r0 r1 r2 r3 f0 f1 f2 f3
        refine wp_region_noPanic ?_
        refine start_ (n := 9) (S := (fun w' => w'.cell? ⟨w.heap.size + 1, 0, none⟩ = some (.int .i64 13) ∧ w'.cell? ⟨w.heap.size + 1, 1, none⟩ = some (.int .i64 a))) (ds := []) #[false, false, false, false, false, false, false, false, false] (by kernel_rfl) rfl rfl (by (try dsimp only); exact ⟨(blk_cell BX.out 0).trans rfl, (blk_cell BX.out 1).trans rfl⟩) (fun hHeld => ?_)
        refine with_tab fit30_tab (fun HT_ => ?_)
        have BP2 := Aside0.mk (blk_drew BP.out)
        clear BP
        have BP := BP2
        clear BP2
        have BX2 := Aside0.mk (blk_drew BX.out)
        clear BX
        have BX := BX2
        clear BX2
        have BR2 := Aside0.mk (blk_drew BR.out)
        clear BR
        have BR := BR2
        clear BR2
        have HB2 := Aside0.mk HB.out.drew
        clear HB
        have HB := HB2
        clear HB2
        generalize wc.drew = w0d at BP BX BR HB hHeld ⊢
        refine take_ (i := 0) (N := some 105) (v := ?_) (a' := ?_) #[true, false, false, false, false, false, false, false, false] rfl rfl (take_of HT_.out (by kernel_rfl)) (fun _ _ _ h => h) (Or.inl ⟨by first | rfl | (go_simp; done), ?_⟩) hHeld ?_ ?_
        rotate_left
        · rintro w' ⟨s0, s1⟩
          go_simp
          try (with_reducible rfl)
        rotate_left
        · simp only [Act.put, List.setIfInBounds_toArray, List.set_cons_zero, List.set_cons_succ]
          rfl
        refine take_ (i := 1) (N := some 106) (v := ?_) (a' := ?_) #[true, true, false, false, false, false, false, false, false] rfl rfl (take_of HT_.out (by kernel_rfl)) (fun _ _ _ h => h) (Or.inl ⟨by first | rfl | (go_simp; done), ?_⟩) hHeld ?_ ?_
        rotate_left
        · rintro w' ⟨s0, s1⟩
          go_simp
          try (with_reducible rfl)
        rotate_left
        · simp only [Act.put, List.setIfInBounds_toArray, List.set_cons_zero, List.set_cons_succ]
          rfl
        refine take_ (i := 2) (N := some 107) (v := ?_) (a' := ?_) #[true, true, true, false, false, false, false, false, false] rfl rfl (take_of HT_.out (by kernel_rfl)) (fun _ _ _ h => h) (Or.inl ⟨by first | rfl | (go_simp; done), ?_⟩) hHeld ?_ ?_
        rotate_left
        · rintro w' ⟨s0, s1⟩
          go_simp
          try (with_reducible rfl)
        rotate_left
        · simp only [Act.put, List.setIfInBounds_toArray, List.set_cons_zero, List.set_cons_succ]
          rfl
        refine take_ (i := 3) (N := some 108) (v := ?_) (a' := ?_) #[true, true, true, true, false, false, false, false, false] rfl rfl (take_of HT_.out (by kernel_rfl)) (fun _ _ _ h => h) (Or.inl ⟨by first | rfl | (go_simp; done), ?_⟩) hHeld ?_ ?_
        rotate_left
        · rintro w' ⟨s0, s1⟩
          go_simp
          try (with_reducible rfl)
        rotate_left
        · simp only [Act.put, List.setIfInBounds_toArray, List.set_cons_zero, List.set_cons_succ]
          rfl
        refine take_ (i := 4) (N := some 109) (v := ?_) (a' := ?_) #[true, true, true, true, true, false, false, false, false] rfl rfl (take_of HT_.out (by kernel_rfl)) (fun _ _ _ h => h) (Or.inl ⟨by first | rfl | (go_simp; done), ?_⟩) hHeld ?_ ?_
        rotate_left
        · rintro w' ⟨s0, s1⟩
          go_simp
          try (with_reducible rfl)
        rotate_left
        · simp only [Act.put, List.setIfInBounds_toArray, List.set_cons_zero, List.set_cons_succ]
          rfl
        refine two_ (i := 5) (j := 7) (Ni := some 110) (Nj := some 13) #[true, true, true, true, true, true, false, false, false] #[true, true, true, true, true, false, false, true, false] rfl rfl rfl rfl (two_of HT_.out (by kernel_rfl)) (by decide) (by decide) (fun K hK => ?_) (fun K hK => ?_)
        · go_simp
          (with_reducible refine (mod_calls a nc _ HX.out _).mono ?_)
          rintro e wb ⟨rfl, hb⟩
          have BP2 := Aside0.mk (blk_below BP.out hb)
          clear BP
          have BP := BP2
          clear BP2
          have BX2 := Aside0.mk (blk_below BX.out hb)
          clear BX
          have BX := BX2
          clear BX2
          have BR2 := Aside0.mk (blk_below BR.out hb)
          clear BR
          have BR := BR2
          clear BR2
          have HB2 := Aside0.mk (below_then HB.out HB.out.size hb)
          clear HB hb
          have HB := HB2
          clear HB2
          refine hK.out _ _ (by (try dsimp only); exact ⟨(blk_cell BX.out 0).trans rfl, (blk_cell BX.out 1).trans rfl⟩) (fun hHeld2 => ?_)
          clear hK K hHeld
          have hHeld := hHeld2
          clear hHeld2
          try simp only [Act.put, List.setIfInBounds_toArray, List.set_cons_zero, List.set_cons_succ]
          refine take_ (i := 6) (N := some 111) (v := ?_) (a' := ?_) #[true, true, true, true, true, true, true, false, false] rfl rfl (take_of HT_.out (by kernel_rfl)) (fun _ _ _ h => h) (Or.inl ⟨by first | rfl | (go_simp; done), ?_⟩) hHeld ?_ ?_
          rotate_left
          · rintro w' ⟨s0, s1⟩
            go_simp
            try (with_reducible rfl)
          rotate_left
          · simp only [Act.put, List.setIfInBounds_toArray, List.set_cons_zero, List.set_cons_succ]
            rfl
          refine one_ (i := 7) (N := some 13) #[true, true, true, true, true, true, true, true, false] rfl rfl (one_of HT_.out (by kernel_rfl)) (by decide) (fun K hK => ?_)
          refine box_step ?hg (N := 13) ?hd (cs := #[.int .i64 0, .int .i64 0, .int .i64 0, .int .i64 0]) (t := 128) ?hr ?_; (case hd => rfl); (case hg => rfl); (case hr => first | (go_simp; done) | (go_simp; rfl))
          intro gb hg wb hbox hb
          have BT := Aside0.mk hbox
          have GB : Aside0 (gb ≠ w.heap.size ∧ gb ≠ w.heap.size + 1 ∧ gb ≠ w.heap.size + 1 + 1 ∧ w.heap.size ≤ gb) := ⟨by have h1 := blk_lt BP.out; have h2 := blk_lt BX.out; have h3 := blk_lt BR.out; omega⟩
          clear hg hbox
          have BP2 := Aside0.mk (blk_below BP.out hb)
          clear BP
          have BP := BP2
          clear BP2
          have BX2 := Aside0.mk (blk_below BX.out hb)
          clear BX
          have BX := BX2
          clear BX2
          have BR2 := Aside0.mk (blk_below BR.out hb)
          clear BR
          have BR := BR2
          clear BR2
          have HB2 := Aside0.mk (below_then HB.out HB.out.size hb)
          clear HB hb
          have HB := HB2
          clear HB2
          refine hK.out _ _ (by (try dsimp only); exact ⟨(blk_cell BX.out 0).trans rfl, (blk_cell BX.out 1).trans rfl⟩) (fun hHeld2 => ?_)
          clear hK K hHeld
          have hHeld := hHeld2
          clear hHeld2
          try simp only [Act.put, List.setIfInBounds_toArray, List.set_cons_zero, List.set_cons_succ]
          refine one_ (i := 8) (N := none) #[true, true, true, true, true, true, true, true, true] rfl rfl (one_of HT_.out (by kernel_rfl)) (by decide) (fun K hK => ?_)
          have r0 : wb.cell? ⟨gb, 0, none⟩ = some (.int .i64 0) := (blk_cell BT.out 0).trans rfl
          have r1 : wb.cell? ⟨gb, 1, none⟩ = some (.int .i64 0) := (blk_cell BT.out 1).trans rfl
          have r2 : wb.cell? ⟨gb, 2, none⟩ = some (.int .i64 0) := (blk_cell BT.out 2).trans rfl
          have r3 : wb.cell? ⟨gb, 3, none⟩ = some (.int .i64 0) := (blk_cell BT.out 3).trans rfl
          have f0 := blk_frozen BT.out 0
          have f1 := blk_frozen BT.out 1
          have f2 := blk_frozen BT.out 2
          have f3 := blk_frozen BT.out 3
          go_simp
          have BX2 := Aside0.mk (far4 BX.out GB.out.2.1.symm (.int .i64 13) (.int .i64 ax) (.int .i64 0) (.int .i64 0))
          have BP2 := Aside0.mk (far4 BP.out GB.out.1.symm (.int .i64 13) (.int .i64 ax) (.int .i64 0) (.int .i64 0))
          have BR2 := Aside0.mk (far4 BR.out GB.out.2.2.1.symm (.int .i64 13) (.int .i64 ax) (.int .i64 0) (.int .i64 0))
          have BT2 := Aside0.mk (four_set BT.out (.int .i64 13) (.int .i64 ax) (.int .i64 0) (.int .i64 0))
          have HB2 := Aside0.mk (four_below HB.out GB.out.2.2.2 (.int .i64 13) (.int .i64 ax) (.int .i64 0) (.int .i64 0))
          clear BX BP BR BT HB r0 r1 r2 r3 f0 f1 f2 f3
          generalize ((((wb.setCell ⟨gb, 0, none⟩ (.int .i64 13)).setCell ⟨gb, 1, none⟩ (.int .i64 ax)).setCell ⟨gb, 2, none⟩ (.int .i64 0)).setCell ⟨gb, 3, none⟩ (.int .i64 0)) = w5 at BX2 BP2 BR2 BT2 HB2 ⊢
          have BX := BX2
          have BP := BP2
          have BR := BR2
          have BT := BT2
          have HB := HB2
          clear BX2 BP2 BR2 BT2 HB2
          refine hK.out _ _ (by (try dsimp only); exact ⟨(blk_cell BX.out 0).trans rfl, (blk_cell BX.out 1).trans rfl⟩) (fun hHeld2 => ?_)
          clear hK K hHeld
          have hHeld := hHeld2
          clear hHeld2
          try simp only [Act.put, List.setIfInBounds_toArray, List.set_cons_zero, List.set_cons_succ]
          refine done_ (done_of HT_.out (by kernel_rfl)) ?_
          refine NoPanic.normal ?_
          have t0 : w5.cell? ⟨gb, 0, none⟩ = some (.int .i64 13) := (blk_cell BT.out 0).trans rfl
          have t1 : w5.cell? ⟨gb, 1, none⟩ = some (.int .i64 ax) := (blk_cell BT.out 1).trans rfl
          have t2 : w5.cell? ⟨gb, 2, none⟩ = some (.int .i64 0) := (blk_cell BT.out 2).trans rfl
          have t3 : w5.cell? ⟨gb, 3, none⟩ = some (.int .i64 0) := (blk_cell BT.out 3).trans rfl
          have x0 : w5.cell? ⟨w.heap.size + 1, 0, none⟩ = some (.int .i64 13) := (blk_cell BX.out 0).trans rfl
          have r0 : w5.cell? ⟨w.heap.size + 1 + 1, 0, none⟩ = some (.int .i64 0) := (blk_cell BR.out 0).trans rfl
          have r1 : w5.cell? ⟨w.heap.size + 1 + 1, 1, none⟩ = some (.int .i64 0) := (blk_cell BR.out 1).trans rfl
          have r2 : w5.cell? ⟨w.heap.size + 1 + 1, 2, none⟩ = some (.int .i64 0) := (blk_cell BR.out 2).trans rfl
          have r3 : w5.cell? ⟨w.heap.size + 1 + 1, 3, none⟩ = some (.int .i64 0) := (blk_cell BR.out 3).trans rfl
          have f0 := blk_frozen BR.out 0
          have g0 := blk_frozen BT.out 0
          have f1 := blk_frozen BR.out 1
          have g1 := blk_frozen BT.out 1
          have f2 := blk_frozen BR.out 2
          have g2 := blk_frozen BT.out 2
          have f3 := blk_frozen BR.out 3
          have g3 := blk_frozen BT.out 3
          obtain ⟨n0, n1, n2, n3⟩ := GB.out
          have n1' := n1.symm
          have n2' := n2.symm
          go_wp2
          refine bodyPost_ret (results_cell_row rfl _ _ (w.heap.size + 1 + 1) 128 #[.int .i64 13, .int .i64 ax, .int .i64 b8, .int .i64 0] (0, 0) _ rfl (four_set (by first | exact BR.out | exact blk_far BR.out n2' _ | exact blk_far (blk_far BR.out n2' _) n2' _) _ _ _ _) Try.underlying128 rfl (by kernel_rfl)) rfl ?_
          exact ⟨_, _, _, _, rfl, four_below (by first | exact HB.out | exact HB.out.setCell n3 _ | exact (HB.out.setCell n3 _).setCell n3 _) (show w.heap.size ≤ w.heap.size + 1 + 1 by omega) _ _ _ _, z13_13 HN.out HZ.out HX.out HBB.out HC.out⟩
        · refine box_step ?hg (N := 13) ?hd (cs := #[.int .i64 0, .int .i64 0, .int .i64 0, .int .i64 0]) (t := 128) ?hr ?_; (case hd => rfl); (case hg => rfl); (case hr => first | (go_simp; done) | (go_simp; rfl))
          intro gb hg wb hbox hb
          have BT := Aside0.mk hbox
          have GB : Aside0 (gb ≠ w.heap.size ∧ gb ≠ w.heap.size + 1 ∧ gb ≠ w.heap.size + 1 + 1 ∧ w.heap.size ≤ gb) := ⟨by have h1 := blk_lt BP.out; have h2 := blk_lt BX.out; have h3 := blk_lt BR.out; omega⟩
          clear hg hbox
          have BP2 := Aside0.mk (blk_below BP.out hb)
          clear BP
          have BP := BP2
          clear BP2
          have BX2 := Aside0.mk (blk_below BX.out hb)
          clear BX
          have BX := BX2
          clear BX2
          have BR2 := Aside0.mk (blk_below BR.out hb)
          clear BR
          have BR := BR2
          clear BR2
          have HB2 := Aside0.mk (below_then HB.out HB.out.size hb)
          clear HB hb
          have HB := HB2
          clear HB2
          refine hK.out _ _ (by (try dsimp only); exact ⟨(blk_cell BX.out 0).trans rfl, (blk_cell BX.out 1).trans rfl⟩) (fun hHeld2 => ?_)
          clear hK K hHeld
          have hHeld := hHeld2
          clear hHeld2
          try simp only [Act.put, List.setIfInBounds_toArray, List.set_cons_zero, List.set_cons_succ]
          refine one_ (i := 5) (N := some 110) #[true, true, true, true, true, true, false, true, false] rfl rfl (one_of HT_.out (by kernel_rfl)) (by decide) (fun K hK => ?_)
          go_simp
          (with_reducible refine (mod_calls a nc _ HX.out _).mono ?_)
          rintro e wb ⟨rfl, hb⟩
          have BP2 := Aside0.mk (blk_below BP.out hb)
          clear BP
          have BP := BP2
          clear BP2
          have BX2 := Aside0.mk (blk_below BX.out hb)
          clear BX
          have BX := BX2
          clear BX2
          have BR2 := Aside0.mk (blk_below BR.out hb)
          clear BR
          have BR := BR2
          clear BR2
          have BT2 := Aside0.mk (blk_below BT.out hb)
          clear BT
          have BT := BT2
          clear BT2
          have HB2 := Aside0.mk (below_then HB.out HB.out.size hb)
          clear HB hb
          have HB := HB2
          clear HB2
          refine hK.out _ _ (by (try dsimp only); exact ⟨(blk_cell BX.out 0).trans rfl, (blk_cell BX.out 1).trans rfl⟩) (fun hHeld2 => ?_)
          clear hK K hHeld
          have hHeld := hHeld2
          clear hHeld2
          try simp only [Act.put, List.setIfInBounds_toArray, List.set_cons_zero, List.set_cons_succ]
          refine take_ (i := 6) (N := some 111) (v := ?_) (a' := ?_) #[true, true, true, true, true, true, true, true, false] rfl rfl (take_of HT_.out (by kernel_rfl)) (fun _ _ _ h => h) (Or.inl ⟨by first | rfl | (go_simp; done), ?_⟩) hHeld ?_ ?_
          rotate_left
          · rintro w' ⟨s0, s1⟩
            go_simp
            try (with_reducible rfl)
          rotate_left
          · simp only [Act.put, List.setIfInBounds_toArray, List.set_cons_zero, List.set_cons_succ]
            rfl
          refine one_ (i := 8) (N := none) #[true, true, true, true, true, true, true, true, true] rfl rfl (one_of HT_.out (by kernel_rfl)) (by decide) (fun K hK => ?_)
          have r0 : wb.cell? ⟨gb, 0, none⟩ = some (.int .i64 0) := (blk_cell BT.out 0).trans rfl
          have r1 : wb.cell? ⟨gb, 1, none⟩ = some (.int .i64 0) := (blk_cell BT.out 1).trans rfl
          have r2 : wb.cell? ⟨gb, 2, none⟩ = some (.int .i64 0) := (blk_cell BT.out 2).trans rfl
          have r3 : wb.cell? ⟨gb, 3, none⟩ = some (.int .i64 0) := (blk_cell BT.out 3).trans rfl
          have f0 := blk_frozen BT.out 0
          have f1 := blk_frozen BT.out 1
          have f2 := blk_frozen BT.out 2
          have f3 := blk_frozen BT.out 3
          go_simp
          have BX2 := Aside0.mk (far4 BX.out GB.out.2.1.symm (.int .i64 13) (.int .i64 ax) (.int .i64 0) (.int .i64 0))
          have BP2 := Aside0.mk (far4 BP.out GB.out.1.symm (.int .i64 13) (.int .i64 ax) (.int .i64 0) (.int .i64 0))
          have BR2 := Aside0.mk (far4 BR.out GB.out.2.2.1.symm (.int .i64 13) (.int .i64 ax) (.int .i64 0) (.int .i64 0))
          have BT2 := Aside0.mk (four_set BT.out (.int .i64 13) (.int .i64 ax) (.int .i64 0) (.int .i64 0))
          have HB2 := Aside0.mk (four_below HB.out GB.out.2.2.2 (.int .i64 13) (.int .i64 ax) (.int .i64 0) (.int .i64 0))
          clear BX BP BR BT HB r0 r1 r2 r3 f0 f1 f2 f3
          generalize ((((wb.setCell ⟨gb, 0, none⟩ (.int .i64 13)).setCell ⟨gb, 1, none⟩ (.int .i64 ax)).setCell ⟨gb, 2, none⟩ (.int .i64 0)).setCell ⟨gb, 3, none⟩ (.int .i64 0)) = w5 at BX2 BP2 BR2 BT2 HB2 ⊢
          have BX := BX2
          have BP := BP2
          have BR := BR2
          have BT := BT2
          have HB := HB2
          clear BX2 BP2 BR2 BT2 HB2
          refine hK.out _ _ (by (try dsimp only); exact ⟨(blk_cell BX.out 0).trans rfl, (blk_cell BX.out 1).trans rfl⟩) (fun hHeld2 => ?_)
          clear hK K hHeld
          have hHeld := hHeld2
          clear hHeld2
          try simp only [Act.put, List.setIfInBounds_toArray, List.set_cons_zero, List.set_cons_succ]
          refine done_ (done_of HT_.out (by kernel_rfl)) ?_
          refine NoPanic.normal ?_
          have t0 : w5.cell? ⟨gb, 0, none⟩ = some (.int .i64 13) := (blk_cell BT.out 0).trans rfl
          have t1 : w5.cell? ⟨gb, 1, none⟩ = some (.int .i64 ax) := (blk_cell BT.out 1).trans rfl
          have t2 : w5.cell? ⟨gb, 2, none⟩ = some (.int .i64 0) := (blk_cell BT.out 2).trans rfl
          have t3 : w5.cell? ⟨gb, 3, none⟩ = some (.int .i64 0) := (blk_cell BT.out 3).trans rfl
          have x0 : w5.cell? ⟨w.heap.size + 1, 0, none⟩ = some (.int .i64 13) := (blk_cell BX.out 0).trans rfl
          have r0 : w5.cell? ⟨w.heap.size + 1 + 1, 0, none⟩ = some (.int .i64 0) := (blk_cell BR.out 0).trans rfl
          have r1 : w5.cell? ⟨w.heap.size + 1 + 1, 1, none⟩ = some (.int .i64 0) := (blk_cell BR.out 1).trans rfl
          have r2 : w5.cell? ⟨w.heap.size + 1 + 1, 2, none⟩ = some (.int .i64 0) := (blk_cell BR.out 2).trans rfl
          have r3 : w5.cell? ⟨w.heap.size + 1 + 1, 3, none⟩ = some (.int .i64 0) := (blk_cell BR.out 3).trans rfl
          have f0 := blk_frozen BR.out 0
          have g0 := blk_frozen BT.out 0
          have f1 := blk_frozen BR.out 1
          have g1 := blk_frozen BT.out 1
          have f2 := blk_frozen BR.out 2
          have g2 := blk_frozen BT.out 2
          have f3 := blk_frozen BR.out 3
          have g3 := blk_frozen BT.out 3
          obtain ⟨n0, n1, n2, n3⟩ := GB.out
          have n1' := n1.symm
          have n2' := n2.symm
          go_wp2
          refine bodyPost_ret (results_cell_row rfl _ _ (w.heap.size + 1 + 1) 128 #[.int .i64 13, .int .i64 ax, .int .i64 b8, .int .i64 0] (0, 0) _ rfl (four_set (by first | exact BR.out | exact blk_far BR.out n2' _ | exact blk_far (blk_far BR.out n2' _) n2' _) _ _ _ _) Try.underlying128 rfl (by kernel_rfl)) rfl ?_
          exact ⟨_, _, _, _, rfl, four_below (by first | exact HB.out | exact HB.out.setCell n3 _ | exact (HB.out.setCell n3 _).setCell n3 _) (show w.heap.size ≤ w.heap.size + 1 + 1 by omega) _ _ _ _, z13_13 HN.out HZ.out HX.out HBB.out HC.out⟩
      · have p0 : wc.cell? ⟨w.heap.size, 0, none⟩ = some (.slice A0 nf c0) := (blk_cell BP.out 0).trans rfl
        have x0 : wc.cell? ⟨w.heap.size + 1, 0, none⟩ = some (.int .i64 14) := (blk_cell BX.out 0).trans rfl
        have r0 : wc.cell? ⟨w.heap.size + 1 + 1, 0, none⟩ = some (.int .i64 0) := (blk_cell BR.out 0).trans rfl
        have p1 : wc.cell? ⟨w.heap.size, 1, none⟩ = some (.slice A1 nc c1) := (blk_cell BP.out 1).trans rfl
        have x1 : wc.cell? ⟨w.heap.size + 1, 1, none⟩ = some (.int .i64 a) := (blk_cell BX.out 1).trans rfl
        have r1 : wc.cell? ⟨w.heap.size + 1 + 1, 1, none⟩ = some (.int .i64 0) := (blk_cell BR.out 1).trans rfl
        have p2 : wc.cell? ⟨w.heap.size, 2, none⟩ = some (.int .i64 locks) := (blk_cell BP.out 2).trans rfl
        have x2 : wc.cell? ⟨w.heap.size + 1, 2, none⟩ = some (.int .i64 b) := (blk_cell BX.out 2).trans rfl
        have r2 : wc.cell? ⟨w.heap.size + 1 + 1, 2, none⟩ = some (.int .i64 0) := (blk_cell BR.out 2).trans rfl
        have p3 : wc.cell? ⟨w.heap.size, 3, none⟩ = some (.slice A3 ncs c3) := (blk_cell BP.out 3).trans rfl
        have x3 : wc.cell? ⟨w.heap.size + 1, 3, none⟩ = some (.int .i64 c) := (blk_cell BX.out 3).trans rfl
        have r3 : wc.cell? ⟨w.heap.size + 1 + 1, 3, none⟩ = some (.int .i64 0) := (blk_cell BR.out 3).trans rfl
        have f0 := blk_frozen BR.out 0
        have f1 := blk_frozen BR.out 1
        have f2 := blk_frozen BR.out 2
        have f3 := blk_frozen BR.out 3
        by_cases hz : (nc : Int) = 0
        · have hzb : ((nc : Int) == 0) = true := beq_iff_eq.2 hz
          go_wp2
          (refine bodyPost_ret (results_cell_row rfl _ _ (w.heap.size + 1 + 1) 128 #[.int .i64 0, .int .i64 0, .int .i64 0, .int .i64 0] (0, 0) _ rfl (four_set BR.out _ _ _ _) Try.underlying128 rfl (by kernel_rfl)) rfl ?_; exact ⟨_, _, _, _, rfl, four_below HB.out (by omega) _ _ _ _, z0_0 _ _ _ _ _⟩)
        have hzb : ((nc : Int) == 0) = false := beq_eq_false_iff_ne.2 hz
        have HZ := Aside0.mk hz
        clear hz
        obtain ⟨ax, hx⟩ : ∃ r, modF a nc = r := ⟨_, rfl⟩
        have HX := Aside0.mk hx
        clear hx
        go_upto_region 30 with (fail)
        clear p0 p1 p2 p3 x0 x1 x2 x3 r0 r1 r2 r3 f0 f1 f2 f3
        refine wp_region_noPanic ?_
        refine start_ (n := 9) (S := (fun w' => w'.cell? ⟨w.heap.size + 1, 0, none⟩ = some (.int .i64 14) ∧ w'.cell? ⟨w.heap.size + 1, 1, none⟩ = some (.int .i64 a))) (ds := []) #[false, false, false, false, false, false, false, false, false] (by kernel_rfl) rfl rfl (by (try dsimp only); exact ⟨(blk_cell BX.out 0).trans rfl, (blk_cell BX.out 1).trans rfl⟩) (fun hHeld => ?_)
        refine with_tab fit30_tab (fun HT_ => ?_)
        have BP2 := Aside0.mk (blk_drew BP.out)
        clear BP
        have BP := BP2
        clear BP2
        have BX2 := Aside0.mk (blk_drew BX.out)
        clear BX
        have BX := BX2
        clear BX2
        have BR2 := Aside0.mk (blk_drew BR.out)
        clear BR
        have BR := BR2
        clear BR2
        have HB2 := Aside0.mk HB.out.drew
        clear HB
        have HB := HB2
        clear HB2
        generalize wc.drew = w0d at BP BX BR HB hHeld ⊢
        refine take_ (i := 0) (N := some 105) (v := ?_) (a' := ?_) #[true, false, false, false, false, false, false, false, false] rfl rfl (take_of HT_.out (by kernel_rfl)) (fun _ _ _ h => h) (Or.inl ⟨by first | rfl | (go_simp; done), ?_⟩) hHeld ?_ ?_
        rotate_left
        · rintro w' ⟨s0, s1⟩
          go_simp
          try (with_reducible rfl)
        rotate_left
        · simp only [Act.put, List.setIfInBounds_toArray, List.set_cons_zero, List.set_cons_succ]
          rfl
        refine take_ (i := 1) (N := some 106) (v := ?_) (a' := ?_) #[true, true, false, false, false, false, false, false, false] rfl rfl (take_of HT_.out (by kernel_rfl)) (fun _ _ _ h => h) (Or.inl ⟨by first | rfl | (go_simp; done), ?_⟩) hHeld ?_ ?_
        rotate_left
        · rintro w' ⟨s0, s1⟩
          go_simp
          try (with_reducible rfl)
        rotate_left
        · simp only [Act.put, List.setIfInBounds_toArray, List.set_cons_zero, List.set_cons_succ]
          rfl
        refine take_ (i := 2) (N := some 107) (v := ?_) (a' := ?_) #[true, true, true, false, false, false, false, false, false] rfl rfl (take_of HT_.out (by kernel_rfl)) (fun _ _ _ h => h) (Or.inl ⟨by first | rfl | (go_simp; done), ?_⟩) hHeld ?_ ?_
        rotate_left
        · rintro w' ⟨s0, s1⟩
          go_simp
          try (with_reducible rfl)
        rotate_left
        · simp only [Act.put, List.setIfInBounds_toArray, List.set_cons_zero, List.set_cons_succ]
          rfl
        refine take_ (i := 3) (N := some 108) (v := ?_) (a' := ?_) #[true, true, true, true, false, false, false, false, false] rfl rfl (take_of HT_.out (by kernel_rfl)) (fun _ _ _ h => h) (Or.inl ⟨by first | rfl | (go_simp; done), ?_⟩) hHeld ?_ ?_
        rotate_left
        · rintro w' ⟨s0, s1⟩
          go_simp
          try (with_reducible rfl)
        rotate_left
        · simp only [Act.put, List.setIfInBounds_toArray, List.set_cons_zero, List.set_cons_succ]
          rfl
        refine take_ (i := 4) (N := some 109) (v := ?_) (a' := ?_) #[true, true, true, true, true, false, false, false, false] rfl rfl (take_of HT_.out (by kernel_rfl)) (fun _ _ _ h => h) (Or.inl ⟨by first | rfl | (go_simp; done), ?_⟩) hHeld ?_ ?_
        rotate_left
        · rintro w' ⟨s0, s1⟩
          go_simp
          try (with_reducible rfl)
        rotate_left
        · simp only [Act.put, List.setIfInBounds_toArray, List.set_cons_zero, List.set_cons_succ]
          rfl
        refine two_ (i := 5) (j := 7) (Ni := some 110) (Nj := some 13) #[true, true, true, true, true, true, false, false, false] #[true, true, true, true, true, false, false, true, false] rfl rfl rfl rfl (two_of HT_.out (by kernel_rfl)) (by decide) (by decide) (fun K hK => ?_) (fun K hK => ?_)
        · go_simp
          (with_reducible refine (mod_calls a nc _ HX.out _).mono ?_)
          rintro e wb ⟨rfl, hb⟩
          have BP2 := Aside0.mk (blk_below BP.out hb)
          clear BP
          have BP := BP2
          clear BP2
          have BX2 := Aside0.mk (blk_below BX.out hb)
          clear BX
          have BX := BX2
          clear BX2
          have BR2 := Aside0.mk (blk_below BR.out hb)
          clear BR
          have BR := BR2
          clear BR2
          have HB2 := Aside0.mk (below_then HB.out HB.out.size hb)
          clear HB hb
          have HB := HB2
          clear HB2
          refine hK.out _ _ (by (try dsimp only); exact ⟨(blk_cell BX.out 0).trans rfl, (blk_cell BX.out 1).trans rfl⟩) (fun hHeld2 => ?_)
          clear hK K hHeld
          have hHeld := hHeld2
          clear hHeld2
          try simp only [Act.put, List.setIfInBounds_toArray, List.set_cons_zero, List.set_cons_succ]
          refine take_ (i := 6) (N := some 111) (v := ?_) (a' := ?_) #[true, true, true, true, true, true, true, false, false] rfl rfl (take_of HT_.out (by kernel_rfl)) (fun _ _ _ h => h) (Or.inl ⟨by first | rfl | (go_simp; done), ?_⟩) hHeld ?_ ?_
          rotate_left
          · rintro w' ⟨s0, s1⟩
            go_simp
            try (with_reducible rfl)
          rotate_left
          · simp only [Act.put, List.setIfInBounds_toArray, List.set_cons_zero, List.set_cons_succ]
            rfl
          refine one_ (i := 7) (N := some 13) #[true, true, true, true, true, true, true, true, false] rfl rfl (one_of HT_.out (by kernel_rfl)) (by decide) (fun K hK => ?_)
          refine box_step ?hg (N := 13) ?hd (cs := #[.int .i64 0, .int .i64 0, .int .i64 0, .int .i64 0]) (t := 128) ?hr ?_; (case hd => rfl); (case hg => rfl); (case hr => first | (go_simp; done) | (go_simp; rfl))
          intro gb hg wb hbox hb
          have BT := Aside0.mk hbox
          have GB : Aside0 (gb ≠ w.heap.size ∧ gb ≠ w.heap.size + 1 ∧ gb ≠ w.heap.size + 1 + 1 ∧ w.heap.size ≤ gb) := ⟨by have h1 := blk_lt BP.out; have h2 := blk_lt BX.out; have h3 := blk_lt BR.out; omega⟩
          clear hg hbox
          have BP2 := Aside0.mk (blk_below BP.out hb)
          clear BP
          have BP := BP2
          clear BP2
          have BX2 := Aside0.mk (blk_below BX.out hb)
          clear BX
          have BX := BX2
          clear BX2
          have BR2 := Aside0.mk (blk_below BR.out hb)
          clear BR
          have BR := BR2
          clear BR2
          have HB2 := Aside0.mk (below_then HB.out HB.out.size hb)
          clear HB hb
          have HB := HB2
          clear HB2
          refine hK.out _ _ (by (try dsimp only); exact ⟨(blk_cell BX.out 0).trans rfl, (blk_cell BX.out 1).trans rfl⟩) (fun hHeld2 => ?_)
          clear hK K hHeld
          have hHeld := hHeld2
          clear hHeld2
          try simp only [Act.put, List.setIfInBounds_toArray, List.set_cons_zero, List.set_cons_succ]
          refine one_ (i := 8) (N := none) #[true, true, true, true, true, true, true, true, true] rfl rfl (one_of HT_.out (by kernel_rfl)) (by decide) (fun K hK => ?_)
          have r0 : wb.cell? ⟨gb, 0, none⟩ = some (.int .i64 0) := (blk_cell BT.out 0).trans rfl
          have r1 : wb.cell? ⟨gb, 1, none⟩ = some (.int .i64 0) := (blk_cell BT.out 1).trans rfl
          have r2 : wb.cell? ⟨gb, 2, none⟩ = some (.int .i64 0) := (blk_cell BT.out 2).trans rfl
          have r3 : wb.cell? ⟨gb, 3, none⟩ = some (.int .i64 0) := (blk_cell BT.out 3).trans rfl
          have f0 := blk_frozen BT.out 0
          have f1 := blk_frozen BT.out 1
          have f2 := blk_frozen BT.out 2
          have f3 := blk_frozen BT.out 3
          go_simp
          have BX2 := Aside0.mk (far4 BX.out GB.out.2.1.symm (.int .i64 14) (.int .i64 ax) (.int .i64 0) (.int .i64 0))
          have BP2 := Aside0.mk (far4 BP.out GB.out.1.symm (.int .i64 14) (.int .i64 ax) (.int .i64 0) (.int .i64 0))
          have BR2 := Aside0.mk (far4 BR.out GB.out.2.2.1.symm (.int .i64 14) (.int .i64 ax) (.int .i64 0) (.int .i64 0))
          have BT2 := Aside0.mk (four_set BT.out (.int .i64 14) (.int .i64 ax) (.int .i64 0) (.int .i64 0))
          have HB2 := Aside0.mk (four_below HB.out GB.out.2.2.2 (.int .i64 14) (.int .i64 ax) (.int .i64 0) (.int .i64 0))
          clear BX BP BR BT HB r0 r1 r2 r3 f0 f1 f2 f3
          generalize ((((wb.setCell ⟨gb, 0, none⟩ (.int .i64 14)).setCell ⟨gb, 1, none⟩ (.int .i64 ax)).setCell ⟨gb, 2, none⟩ (.int .i64 0)).setCell ⟨gb, 3, none⟩ (.int .i64 0)) = w5 at BX2 BP2 BR2 BT2 HB2 ⊢
          have BX := BX2
          have BP := BP2
          have BR := BR2
          have BT := BT2
          have HB := HB2
          clear BX2 BP2 BR2 BT2 HB2
          refine hK.out _ _ (by (try dsimp only); exact ⟨(blk_cell BX.out 0).trans rfl, (blk_cell BX.out 1).trans rfl⟩) (fun hHeld2 => ?_)
          clear hK K hHeld
          have hHeld := hHeld2
          clear hHeld2
          try simp only [Act.put, List.setIfInBounds_toArray, List.set_cons_zero, List.set_cons_succ]
          refine done_ (done_of HT_.out (by kernel_rfl)) ?_
          refine NoPanic.normal ?_
          have t0 : w5.cell? ⟨gb, 0, none⟩ = some (.int .i64 14) := (blk_cell BT.out 0).trans rfl
          have t1 : w5.cell? ⟨gb, 1, none⟩ = some (.int .i64 ax) := (blk_cell BT.out 1).trans rfl
          have t2 : w5.cell? ⟨gb, 2, none⟩ = some (.int .i64 0) := (blk_cell BT.out 2).trans rfl
          have t3 : w5.cell? ⟨gb, 3, none⟩ = some (.int .i64 0) := (blk_cell BT.out 3).trans rfl
          have x0 : w5.cell? ⟨w.heap.size + 1, 0, none⟩ = some (.int .i64 14) := (blk_cell BX.out 0).trans rfl
          have r0 : w5.cell? ⟨w.heap.size + 1 + 1, 0, none⟩ = some (.int .i64 0) := (blk_cell BR.out 0).trans rfl
          have r1 : w5.cell? ⟨w.heap.size + 1 + 1, 1, none⟩ = some (.int .i64 0) := (blk_cell BR.out 1).trans rfl
          have r2 : w5.cell? ⟨w.heap.size + 1 + 1, 2, none⟩ = some (.int .i64 0) := (blk_cell BR.out 2).trans rfl
          have r3 : w5.cell? ⟨w.heap.size + 1 + 1, 3, none⟩ = some (.int .i64 0) := (blk_cell BR.out 3).trans rfl
          have f0 := blk_frozen BR.out 0
          have g0 := blk_frozen BT.out 0
          have f1 := blk_frozen BR.out 1
          have g1 := blk_frozen BT.out 1
          have f2 := blk_frozen BR.out 2
          have g2 := blk_frozen BT.out 2
          have f3 := blk_frozen BR.out 3
          have g3 := blk_frozen BT.out 3
          obtain ⟨n0, n1, n2, n3⟩ := GB.out
          have n1' := n1.symm
          have n2' := n2.symm
          go_wp2
          refine bodyPost_ret (results_cell_row rfl _ _ (w.heap.size + 1 + 1) 128 #[.int .i64 14, .int .i64 ax, .int .i64 b8, .int .i64 c8] (0, 0) _ rfl (four_set (by first | exact BR.out | exact blk_far BR.out n2' _ | exact blk_far (blk_far BR.out n2' _) n2' _) _ _ _ _) Try.underlying128 rfl (by kernel_rfl)) rfl ?_
          exact ⟨_, _, _, _, rfl, four_below (by first | exact HB.out | exact HB.out.setCell n3 _ | exact (HB.out.setCell n3 _).setCell n3 _) (show w.heap.size ≤ w.heap.size + 1 + 1 by omega) _ _ _ _, z13_14 HN.out HZ.out HX.out HBB.out HC.out⟩
        · refine box_step ?hg (N := 13) ?hd (cs := #[.int .i64 0, .int .i64 0, .int .i64 0, .int .i64 0]) (t := 128) ?hr ?_; (case hd => rfl); (case hg => rfl); (case hr => first | (go_simp; done) | (go_simp; rfl))
          intro gb hg wb hbox hb
          have BT := Aside0.mk hbox
          have GB : Aside0 (gb ≠ w.heap.size ∧ gb ≠ w.heap.size + 1 ∧ gb ≠ w.heap.size + 1 + 1 ∧ w.heap.size ≤ gb) := ⟨by have h1 := blk_lt BP.out; have h2 := blk_lt BX.out; have h3 := blk_lt BR.out; omega⟩
          clear hg hbox
          have BP2 := Aside0.mk (blk_below BP.out hb)
          clear BP
          have BP := BP2
          clear BP2
          have BX2 := Aside0.mk (blk_below BX.out hb)
          clear BX
          have BX := BX2
          clear BX2
          have BR2 := Aside0.mk (blk_below BR.out hb)
          clear BR
          have BR := BR2
          clear BR2
          have HB2 := Aside0.mk (below_then HB.out HB.out.size hb)
          clear HB hb
          have HB := HB2
          clear HB2
          refine hK.out _ _ (by (try dsimp only); exact ⟨(blk_cell BX.out 0).trans rfl, (blk_cell BX.out 1).trans rfl⟩) (fun hHeld2 => ?_)
          clear hK K hHeld
          have hHeld := hHeld2
          clear hHeld2
          try simp only [Act.put, List.setIfInBounds_toArray, List.set_cons_zero, List.set_cons_succ]
          refine one_ (i := 5) (N := some 110) #[true, true, true, true, true, true, false, true, false] rfl rfl (one_of HT_.out (by kernel_rfl)) (by decide) (fun K hK => ?_)
          go_simp
          (with_reducible refine (mod_calls a nc _ HX.out _).mono ?_)
          rintro e wb ⟨rfl, hb⟩
          have BP2 := Aside0.mk (blk_below BP.out hb)
          clear BP
          have BP := BP2
          clear BP2
          have BX2 := Aside0.mk (blk_below BX.out hb)
          clear BX
          have BX := BX2
          clear BX2
          have BR2 := Aside0.mk (blk_below BR.out hb)
          clear BR
          have BR := BR2
          clear BR2
          have BT2 := Aside0.mk (blk_below BT.out hb)
          clear BT
          have BT := BT2
          clear BT2
          have HB2 := Aside0.mk (below_then HB.out HB.out.size hb)
          clear HB hb
          have HB := HB2
          clear HB2
          refine hK.out _ _ (by (try dsimp only); exact ⟨(blk_cell BX.out 0).trans rfl, (blk_cell BX.out 1).trans rfl⟩) (fun hHeld2 => ?_)
          clear hK K hHeld
          have hHeld := hHeld2
          clear hHeld2
          try simp only [Act.put, List.setIfInBounds_toArray, List.set_cons_zero, List.set_cons_succ]
          refine take_ (i := 6) (N := some 111) (v := ?_) (a' := ?_) #[true, true, true, true, true, true, true, true, false] rfl rfl (take_of HT_.out (by kernel_rfl)) (fun _ _ _ h => h) (Or.inl ⟨by first | rfl | (go_simp; done), ?_⟩) hHeld ?_ ?_
          rotate_left
          · rintro w' ⟨s0, s1⟩
            go_simp
            try (with_reducible rfl)
          rotate_left
          · simp only [Act.put, List.setIfInBounds_toArray, List.set_cons_zero, List.set_cons_succ]
            rfl
          refine one_ (i := 8) (N := none) #[true, true, true, true, true, true, true, true, true] rfl rfl (one_of HT_.out (by kernel_rfl)) (by decide) (fun K hK => ?_)
          have r0 : wb.cell? ⟨gb, 0, none⟩ = some (.int .i64 0) := (blk_cell BT.out 0).trans rfl
          have r1 : wb.cell? ⟨gb, 1, none⟩ = some (.int .i64 0) := (blk_cell BT.out 1).trans rfl
          have r2 : wb.cell? ⟨gb, 2, none⟩ = some (.int .i64 0) := (blk_cell BT.out 2).trans rfl
          have r3 : wb.cell? ⟨gb, 3, none⟩ = some (.int .i64 0) := (blk_cell BT.out 3).trans rfl
          have f0 := blk_frozen BT.out 0
          have f1 := blk_frozen BT.out 1
          have f2 := blk_frozen BT.out 2
          have f3 := blk_frozen BT.out 3
          go_simp
          have BX2 := Aside0.mk (far4 BX.out GB.out.2.1.symm (.int .i64 14) (.int .i64 ax) (.int .i64 0) (.int .i64 0))
          have BP2 := Aside0.mk (far4 BP.out GB.out.1.symm (.int .i64 14) (.int .i64 ax) (.int .i64 0) (.int .i64 0))
          have BR2 := Aside0.mk (far4 BR.out GB.out.2.2.1.symm (.int .i64 14) (.int .i64 ax) (.int .i64 0) (.int .i64 0))
          have BT2 := Aside0.mk (four_set BT.out (.int .i64 14) (.int .i64 ax) (.int .i64 0) (.int .i64 0))
          have HB2 := Aside0.mk (four_below HB.out GB.out.2.2.2 (.int .i64 14) (.int .i64 ax) (.int .i64 0) (.int .i64 0))
          clear BX BP BR BT HB r0 r1 r2 r3 f0 f1 f2 f3
          generalize ((((wb.setCell ⟨gb, 0, none⟩ (.int .i64 14)).setCell ⟨gb, 1, none⟩ (.int .i64 ax)).setCell ⟨gb, 2, none⟩ (.int .i64 0)).setCell ⟨gb, 3, none⟩ (.int .i64 0)) = w5 at BX2 BP2 BR2 BT2 HB2 ⊢
          have BX := BX2
          have BP := BP2
          have BR := BR2
          have BT := BT2
          have HB := HB2
          clear BX2 BP2 BR2 BT2 HB2
          refine hK.out _ _ (by (try dsimp only); exact ⟨(blk_cell BX.out 0).trans rfl, (blk_cell BX.out 1).trans rfl⟩) (fun hHeld2 => ?_)
          clear hK K hHeld
          have hHeld := hHeld2
          clear hHeld2
          try simp only [Act.put, List.setIfInBounds_toArray, List.set_cons_zero, List.set_cons_succ]
          refine done_ (done_of HT_.out (by kernel_rfl)) ?_
          refine NoPanic.normal ?_
          have t0 : w5.cell? ⟨gb, 0, none⟩ = some (.int .i64 14) := (blk_cell BT.out 0).trans rfl
          have t1 : w5.cell? ⟨gb, 1, none⟩ = some (.int .i64 ax) := (blk_cell BT.out 1).trans rfl
          have t2 : w5.cell? ⟨gb, 2, none⟩ = some (.int .i64 0) := (blk_cell BT.out 2).trans rfl
          have t3 : w5.cell? ⟨gb, 3, none⟩ = some (.int .i64 0) := (blk_cell BT.out 3).trans rfl
          have x0 : w5.cell? ⟨w.heap.size + 1, 0, none⟩ = some (.int .i64 14) := (blk_cell BX.out 0).trans rfl
          have r0 : w5.cell? ⟨w.heap.size + 1 + 1, 0, none⟩ = some (.int .i64 0) := (blk_cell BR.out 0).trans rfl
          have r1 : w5.cell? ⟨w.heap.size + 1 + 1, 1, none⟩ = some (.int .i64 0) := (blk_cell BR.out 1).trans rfl
          have r2 : w5.cell? ⟨w.heap.size + 1 + 1, 2, none⟩ = some (.int .i64 0) := (blk_cell BR.out 2).trans rfl
          have r3 : w5.cell? ⟨w.heap.size + 1 + 1, 3, none⟩ = some (.int .i64 0) := (blk_cell BR.out 3).trans rfl
          have f0 := blk_frozen BR.out 0
          have g0 := blk_frozen BT.out 0
          have f1 := blk_frozen BR.out 1
          have g1 := blk_frozen BT.out 1
          have f2 := blk_frozen BR.out 2
          have g2 := blk_frozen BT.out 2
          have f3 := blk_frozen BR.out 3
          have g3 := blk_frozen BT.out 3
          obtain ⟨n0, n1, n2, n3⟩ := GB.out
          have n1' := n1.symm
          have n2' := n2.symm
          go_wp2
          refine bodyPost_ret (results_cell_row rfl _ _ (w.heap.size + 1 + 1) 128 #[.int .i64 14, .int .i64 ax, .int .i64 b8, .int .i64 c8] (0, 0) _ rfl (four_set (by first | exact BR.out | exact blk_far BR.out n2' _ | exact blk_far (blk_far BR.out n2' _) n2' _) _ _ _ _) Try.underlying128 rfl (by kernel_rfl)) rfl ?_
          exact ⟨_, _, _, _, rfl, four_below (by first | exact HB.out | exact HB.out.setCell n3 _ | exact (HB.out.setCell n3 _).setCell n3 _) (show w.heap.size ≤ w.heap.size + 1 + 1 by omega) _ _ _ _, z13_14 HN.out HZ.out HX.out HBB.out HC.out⟩
      · have p0 : wc.cell? ⟨w.heap.size, 0, none⟩ = some (.slice A0 nf c0) := (blk_cell BP.out 0).trans rfl
        have x0 : wc.cell? ⟨w.heap.size + 1, 0, none⟩ = some (.int .i64 15) := (blk_cell BX.out 0).trans rfl
        have r0 : wc.cell? ⟨w.heap.size + 1 + 1, 0, none⟩ = some (.int .i64 0) := (blk_cell BR.out 0).trans rfl
        have p1 : wc.cell? ⟨w.heap.size, 1, none⟩ = some (.slice A1 nc c1) := (blk_cell BP.out 1).trans rfl
        have x1 : wc.cell? ⟨w.heap.size + 1, 1, none⟩ = some (.int .i64 a) := (blk_cell BX.out 1).trans rfl
        have r1 : wc.cell? ⟨w.heap.size + 1 + 1, 1, none⟩ = some (.int .i64 0) := (blk_cell BR.out 1).trans rfl
        have p2 : wc.cell? ⟨w.heap.size, 2, none⟩ = some (.int .i64 locks) := (blk_cell BP.out 2).trans rfl
        have x2 : wc.cell? ⟨w.heap.size + 1, 2, none⟩ = some (.int .i64 b) := (blk_cell BX.out 2).trans rfl
        have r2 : wc.cell? ⟨w.heap.size + 1 + 1, 2, none⟩ = some (.int .i64 0) := (blk_cell BR.out 2).trans rfl
        have p3 : wc.cell? ⟨w.heap.size, 3, none⟩ = some (.slice A3 ncs c3) := (blk_cell BP.out 3).trans rfl
        have x3 : wc.cell? ⟨w.heap.size + 1, 3, none⟩ = some (.int .i64 c) := (blk_cell BX.out 3).trans rfl
        have r3 : wc.cell? ⟨w.heap.size + 1 + 1, 3, none⟩ = some (.int .i64 0) := (blk_cell BR.out 3).trans rfl
        have f0 := blk_frozen BR.out 0
        have f1 := blk_frozen BR.out 1
        have f2 := blk_frozen BR.out 2
        have f3 := blk_frozen BR.out 3
        by_cases hz : (nc : Int) = 0
        · have hzb : ((nc : Int) == 0) = true := beq_iff_eq.2 hz
          go_wp2
          (refine bodyPost_ret (results_cell_row rfl _ _ (w.heap.size + 1 + 1) 128 #[.int .i64 0, .int .i64 0, .int .i64 0, .int .i64 0] (0, 0) _ rfl (four_set BR.out _ _ _ _) Try.underlying128 rfl (by kernel_rfl)) rfl ?_; exact ⟨_, _, _, _, rfl, four_below HB.out (by omega) _ _ _ _, z0_0 _ _ _ _ _⟩)
        have hzb : ((nc : Int) == 0) = false := beq_eq_false_iff_ne.2 hz
        have HZ := Aside0.mk hz
        clear hz
        obtain ⟨ax, hx⟩ : ∃ r, modF a nc = r := ⟨_, rfl⟩
        have HX := Aside0.mk hx
        clear hx
        go_upto_region 30 with (fail)
        clear p0 p1 p2 p3 x0 x1 x2 x3 r0 r1 r2 r3 f0 f1 f2 f3
        refine wp_region_noPanic ?_
        refine start_ (n := 9) (S := (fun w' => w'.cell? ⟨w.heap.size + 1, 0, none⟩ = some (.int .i64 15) ∧ w'.cell? ⟨w.heap.size + 1, 1, none⟩ = some (.int .i64 a))) (ds := []) #[false, false, false, false, false, false, false, false, false] (by kernel_rfl) rfl rfl (by (try dsimp only); exact ⟨(blk_cell BX.out 0).trans rfl, (blk_cell BX.out 1).trans rfl⟩) (fun hHeld => ?_)
        refine with_tab fit30_tab (fun HT_ => ?_)
        have BP2 := Aside0.mk (blk_drew BP.out)
        clear BP
        have BP := BP2
        clear BP2
        have BX2 := Aside0.mk (blk_drew BX.out)
        clear BX
        have BX := BX2
        clear BX2
        have BR2 := Aside0.mk (blk_drew BR.out)
        clear BR
        have BR := BR2
        clear BR2
        have HB2 := Aside0.mk HB.out.drew
        clear HB
        have HB := HB2
        clear HB2
        generalize wc.drew = w0d at BP BX BR HB hHeld ⊢
        refine take_ (i := 0) (N := some 105) (v := ?_) (a' := ?_) #[true, false, false, false, false, false, false, false, false] rfl rfl (take_of HT_.out (by kernel_rfl)) (fun _ _ _ h => h) (Or.inl ⟨by first | rfl | (go_simp; done), ?_⟩) hHeld ?_ ?_
        rotate_left
        · rintro w' ⟨s0, s1⟩
          go_simp
          try (with_reducible rfl)
        rotate_left
        · simp only [Act.put, List.setIfInBounds_toArray, List.set_cons_zero, List.set_cons_succ]
          rfl
        refine take_ (i := 1) (N := some 106) (v := ?_) (a' := ?_) #[true, true, false, false, false, false, false, false, false] rfl rfl (take_of HT_.out (by kernel_rfl)) (fun _ _ _ h => h) (Or.inl ⟨by first | rfl | (go_simp; done), ?_⟩) hHeld ?_ ?_
        rotate_left
        · rintro w' ⟨s0, s1⟩
          go_simp
          try (with_reducible rfl)
        rotate_left
        · simp only [Act.put, List.setIfInBounds_toArray, List.set_cons_zero, List.set_cons_succ]
          rfl
        refine take_ (i := 2) (N := some 107) (v := ?_) (a' := ?_) #[true, true, true, false, false, false, false, false, false] rfl rfl (take_of HT_.out (by kernel_rfl)) (fun _ _ _ h => h) (Or.inl ⟨by first | rfl | (go_simp; done), ?_⟩) hHeld ?_ ?_
        rotate_left
        · rintro w' ⟨s0, s1⟩
          go_simp
          try (with_reducible rfl)
        rotate_left
        · simp only [Act.put, List.setIfInBounds_toArray, List.set_cons_zero, List.set_cons_succ]
          rfl
        refine take_ (i := 3) (N := some 108) (v := ?_) (a' := ?_) #[true, true, true, true, false, false, false, false, false] rfl rfl (take_of HT_.out (by kernel_rfl)) (fun _ _ _ h => h) (Or.inl ⟨by first | rfl | (go_simp; done), ?_⟩) hHeld ?_ ?_
        rotate_left
        · rintro w' ⟨s0, s1⟩
          go_simp
          try (with_reducible rfl)
        rotate_left
        · simp only [Act.put, List.setIfInBounds_toArray, List.set_cons_zero, List.set_cons_succ]
          rfl
        refine take_ (i := 4) (N := some 109) (v := ?_) (a' := ?_) #[true, true, true, true, true, false, false, false, false] rfl rfl (take_of HT_.out (by kernel_rfl)) (fun _ _ _ h => h) (Or.inl ⟨by first | rfl | (go_simp; done), ?_⟩) hHeld ?_ ?_
        rotate_left
        · rintro w' ⟨s0, s1⟩
          go_simp
          try (with_reducible rfl)
        rotate_left
        · simp only [Act.put, List.setIfInBounds_toArray, List.set_cons_zero, List.set_cons_succ]
          rfl
        refine two_ (i := 5) (j := 7) (Ni := some 110) (Nj := some 13) #[true, true, true, true, true, true, false, false, false] #[true, true, true, true, true, false, false, true, false] rfl rfl rfl rfl (two_of HT_.out (by kernel_rfl)) (by decide) (by decide) (fun K hK => ?_) (fun K hK => ?_)
        · go_simp
          (with_reducible refine (mod_calls a nc _ HX.out _).mono ?_)
          rintro e wb ⟨rfl, hb⟩
          have BP2 := Aside0.mk (blk_below BP.out hb)
          clear BP
          have BP := BP2
          clear BP2
          have BX2 := Aside0.mk (blk_below BX.out hb)
          clear BX
          have BX := BX2
          clear BX2
          have BR2 := Aside0.mk (blk_below BR.out hb)
          clear BR
          have BR := BR2
          clear BR2
          have HB2 := Aside0.mk (below_then HB.out HB.out.size hb)
          clear HB hb
          have HB := HB2
          clear HB2
          refine hK.out _ _ (by (try dsimp only); exact ⟨(blk_cell BX.out 0).trans rfl, (blk_cell BX.out 1).trans rfl⟩) (fun hHeld2 => ?_)
          clear hK K hHeld
          have hHeld := hHeld2
          clear hHeld2
          try simp only [Act.put, List.setIfInBounds_toArray, List.set_cons_zero, List.set_cons_succ]
          refine take_ (i := 6) (N := some 111) (v := ?_) (a' := ?_) #[true, true, true, true, true, true, true, false, false] rfl rfl (take_of HT_.out (by kernel_rfl)) (fun _ _ _ h => h) (Or.inl ⟨by first | rfl | (go_simp; done), ?_⟩) hHeld ?_ ?_
          rotate_left
          · rintro w' ⟨s0, s1⟩
            go_simp
            try (with_reducible rfl)
          rotate_left
          · simp only [Act.put, List.setIfInBounds_toArray, List.set_cons_zero, List.set_cons_succ]
            rfl
          refine one_ (i := 7) (N := some 13) #[true, true, true, true, true, true, true, true, false] rfl rfl (one_of HT_.out (by kernel_rfl)) (by decide) (fun K hK => ?_)
          refine box_step ?hg (N := 13) ?hd (cs := #[.int .i64 0, .int .i64 0, .int .i64 0, .int .i64 0]) (t := 128) ?hr ?_; (case hd => rfl); (case hg => rfl); (case hr => first | (go_simp; done) | (go_simp; rfl))
          intro gb hg wb hbox hb
          have BT := Aside0.mk hbox
          have GB : Aside0 (gb ≠ w.heap.size ∧ gb ≠ w.heap.size + 1 ∧ gb ≠ w.heap.size + 1 + 1 ∧ w.heap.size ≤ gb) := ⟨by have h1 := blk_lt BP.out; have h2 := blk_lt BX.out; have h3 := blk_lt BR.out; omega⟩
          clear hg hbox
          have BP2 := Aside0.mk (blk_below BP.out hb)
          clear BP
          have BP := BP2
          clear BP2
          have BX2 := Aside0.mk (blk_below BX.out hb)
          clear BX
          have BX := BX2
          clear BX2
          have BR2 := Aside0.mk (blk_below BR.out hb)
          clear BR
          have BR := BR2
          clear BR2
          have HB2 := Aside0.mk (below_then HB.out HB.out.size hb)
          clear HB hb
          have HB := HB2
          clear HB2
          refine hK.out _ _ (by (try dsimp only); exact ⟨(blk_cell BX.out 0).trans rfl, (blk_cell BX.out 1).trans rfl⟩) (fun hHeld2 => ?_)
          clear hK K hHeld
          have hHeld := hHeld2
          clear hHeld2
          try simp only [Act.put, List.setIfInBounds_toArray, List.set_cons_zero, List.set_cons_succ]
          refine one_ (i := 8) (N := none) #[true, true, true, true, true, true, true, true, true] rfl rfl (one_of HT_.out (by kernel_rfl)) (by decide) (fun K hK => ?_)
          have r0 : wb.cell? ⟨gb, 0, none⟩ = some (.int .i64 0) := (blk_cell BT.out 0).trans rfl
          have r1 : wb.cell? ⟨gb, 1, none⟩ = some (.int .i64 0) := (blk_cell BT.out 1).trans rfl
          have r2 : wb.cell? ⟨gb, 2, none⟩ = some (.int .i64 0) := (blk_cell BT.out 2).trans rfl
          have r3 : wb.cell? ⟨gb, 3, none⟩ = some (.int .i64 0) := (blk_cell BT.out 3).trans rfl
          have f0 := blk_frozen BT.out 0
          have f1 := blk_frozen BT.out 1
          have f2 := blk_frozen BT.out 2
          have f3 := blk_frozen BT.out 3
          go_simp
          have BX2 := Aside0.mk (far4 BX.out GB.out.2.1.symm (.int .i64 15) (.int .i64 ax) (.int .i64 0) (.int .i64 0))
          have BP2 := Aside0.mk (far4 BP.out GB.out.1.symm (.int .i64 15) (.int .i64 ax) (.int .i64 0) (.int .i64 0))
          have BR2 := Aside0.mk (far4 BR.out GB.out.2.2.1.symm (.int .i64 15) (.int .i64 ax) (.int .i64 0) (.int .i64 0))
          have BT2 := Aside0.mk (four_set BT.out (.int .i64 15) (.int .i64 ax) (.int .i64 0) (.int .i64 0))
          have HB2 := Aside0.mk (four_below HB.out GB.out.2.2.2 (.int .i64 15) (.int .i64 ax) (.int .i64 0) (.int .i64 0))
          clear BX BP BR BT HB r0 r1 r2 r3 f0 f1 f2 f3
          generalize ((((wb.setCell ⟨gb, 0, none⟩ (.int .i64 15)).setCell ⟨gb, 1, none⟩ (.int .i64 ax)).setCell ⟨gb, 2, none⟩ (.int .i64 0)).setCell ⟨gb, 3, none⟩ (.int .i64 0)) = w5 at BX2 BP2 BR2 BT2 HB2 ⊢
          have BX := BX2
          have BP := BP2
          have BR := BR2
          have BT := BT2
          have HB := HB2
          clear BX2 BP2 BR2 BT2 HB2
          refine hK.out _ _ (by (try dsimp only); exact ⟨(blk_cell BX.out 0).trans rfl, (blk_cell BX.out 1).trans rfl⟩) (fun hHeld2 => ?_)
          clear hK K hHeld
          have hHeld := hHeld2
          clear hHeld2
          try simp only [Act.put, List.setIfInBounds_toArray, List.set_cons_zero, List.set_cons_succ]
          refine done_ (done_of HT_.out (by kernel_rfl)) ?_
          refine NoPanic.normal ?_
          have t0 : w5.cell? ⟨gb, 0, none⟩ = some (.int .i64 15) := (blk_cell BT.out 0).trans rfl
          have t1 : w5.cell? ⟨gb, 1, none⟩ = some (.int .i64 ax) := (blk_cell BT.out 1).trans rfl
          have t2 : w5.cell? ⟨gb, 2, none⟩ = some (.int .i64 0) := (blk_cell BT.out 2).trans rfl
          have t3 : w5.cell? ⟨gb, 3, none⟩ = some (.int .i64 0) := (blk_cell BT.out 3).trans rfl
          have x0 : w5.cell? ⟨w.heap.size + 1, 0, none⟩ = some (.int .i64 15) := (blk_cell BX.out 0).trans rfl
          have r0 : w5.cell? ⟨w.heap.size + 1 + 1, 0, none⟩ = some (.int .i64 0) := (blk_cell BR.out 0).trans rfl
          have r1 : w5.cell? ⟨w.heap.size + 1 + 1, 1, none⟩ = some (.int .i64 0) := (blk_cell BR.out 1).trans rfl
          have r2 : w5.cell? ⟨w.heap.size + 1 + 1, 2, none⟩ = some (.int .i64 0) := (blk_cell BR.out 2).trans rfl
          have r3 : w5.cell? ⟨w.heap.size + 1 + 1, 3, none⟩ = some (.int .i64 0) := (blk_cell BR.out 3).trans rfl
          have f0 := blk_frozen BR.out 0
          have g0 := blk_frozen BT.out 0
          have f1 := blk_frozen BR.out 1
          have g1 := blk_frozen BT.out 1
          have f2 := blk_frozen BR.out 2
          have g2 := blk_frozen BT.out 2
          have f3 := blk_frozen BR.out 3
          have g3 := blk_frozen BT.out 3
          obtain ⟨n0, n1, n2, n3⟩ := GB.out
          have n1' := n1.symm
          have n2' := n2.symm
          go_wp2
          refine bodyPost_ret (results_cell_row rfl _ _ (w.heap.size + 1 + 1) 128 #[.int .i64 15, .int .i64 ax, .int .i64 0, .int .i64 0] (0, 0) _ rfl (four_set (by first | exact BR.out | exact blk_far BR.out n2' _ | exact blk_far (blk_far BR.out n2' _) n2' _) _ _ _ _) Try.underlying128 rfl (by kernel_rfl)) rfl ?_
          exact ⟨_, _, _, _, rfl, four_below (by first | exact HB.out | exact HB.out.setCell n3 _ | exact (HB.out.setCell n3 _).setCell n3 _) (show w.heap.size ≤ w.heap.size + 1 + 1 by omega) _ _ _ _, z13_15 HN.out HZ.out HX.out HBB.out HC.out⟩
        · refine box_step ?hg (N := 13) ?hd (cs := #[.int .i64 0, .int .i64 0, .int .i64 0, .int .i64 0]) (t := 128) ?hr ?_; (case hd => rfl); (case hg => rfl); (case hr => first | (go_simp; done) | (go_simp; rfl))
          intro gb hg wb hbox hb
          have BT := Aside0.mk hbox
          have GB : Aside0 (gb ≠ w.heap.size ∧ gb ≠ w.heap.size + 1 ∧ gb ≠ w.heap.size + 1 + 1 ∧ w.heap.size ≤ gb) := ⟨by have h1 := blk_lt BP.out; have h2 := blk_lt BX.out; have h3 := blk_lt BR.out; omega⟩
          clear hg hbox
          have BP2 := Aside0.mk (blk_below BP.out hb)
          clear BP
          have BP := BP2
          clear BP2
          have BX2 := Aside0.mk (blk_below BX.out hb)
          clear BX
          have BX := BX2
          clear BX2
          have BR2 := Aside0.mk (blk_below BR.out hb)
          clear BR
          have BR := BR2
          clear BR2
          have HB2 := Aside0.mk (below_then HB.out HB.out.size hb)
          clear HB hb
          have HB := HB2
          clear HB2
          refine hK.out _ _ (by (try dsimp only); exact ⟨(blk_cell BX.out 0).trans rfl, (blk_cell BX.out 1).trans rfl⟩) (fun hHeld2 => ?_)
          clear hK K hHeld
          have hHeld := hHeld2
          clear hHeld2
          try simp only [Act.put, List.setIfInBounds_toArray, List.set_cons_zero, List.set_cons_succ]
          refine one_ (i := 5) (N := some 110) #[true, true, true, true, true, true, false, true, false] rfl rfl (one_of HT_.out (by kernel_rfl)) (by decide) (fun K hK => ?_)
          go_simp
          (with_reducible refine (mod_calls a nc _ HX.out _).mono ?_)
          rintro e wb ⟨rfl, hb⟩
          have BP2 := Aside0.mk (blk_below BP.out hb)
          clear BP
          have BP := BP2
          clear BP2
          have BX2 := Aside0.mk (blk_below BX.out hb)
          clear BX
          have BX := BX2
          clear BX2
          have BR2 := Aside0.mk (blk_below BR.out hb)
          clear BR
          have BR := BR2
          clear BR2
          have BT2 := Aside0.mk (blk_below BT.out hb)
          clear BT
          have BT := BT2
          clear BT2
          have HB2 := Aside0.mk (below_then HB.out HB.out.size hb)
          clear HB hb
          have HB := HB2
          clear HB2
          refine hK.out _ _ (by (try dsimp only); exact ⟨(blk_cell BX.out 0).trans rfl, (blk_cell BX.out 1).trans rfl⟩) (fun hHeld2 => ?_)
          clear hK K hHeld
          have hHeld := hHeld2
          clear hHeld2
          try simp only [Act.put, List.setIfInBounds_toArray, List.set_cons_zero, List.set_cons_succ]
          refine take_ (i := 6) (N := some 111) (v := ?_) (a' := ?_) #[true, true, true, true, true, true, true, true, false] rfl rfl (take_of HT_.out (by kernel_rfl)) (fun _ _ _ h => h) (Or.inl ⟨by first | rfl | (go_simp; done), ?_⟩) hHeld ?_ ?_
          rotate_left
          · rintro w' ⟨s0, s1⟩
            go_simp
            try (with_reducible rfl)
          rotate_left
          · simp only [Act.put, List.setIfInBounds_toArray, List.set_cons_zero, List.set_cons_succ]
            rfl
          refine one_ (i := 8) (N := none) #[true, true, true, true, true, true, true, true, true] rfl rfl (one_of HT_.out (by kernel_rfl)) (by decide) (fun K hK => ?_)
          have r0 : wb.cell? ⟨gb, 0, none⟩ = some (.int .i64 0) := (blk_cell BT.out 0).trans rfl
          have r1 : wb.cell? ⟨gb, 1, none⟩ = some (.int .i64 0) := (blk_cell BT.out 1).trans rfl
          have r2 : wb.cell? ⟨gb, 2, none⟩ = some (.int .i64 0) := (blk_cell BT.out 2).trans rfl
          have r3 : wb.cell? ⟨gb, 3, none⟩ = some (.int .i64 0) := (blk_cell BT.out 3).trans rfl
          have f0 := blk_frozen BT.out 0
          have f1 := blk_frozen BT.out 1
          have f2 := blk_frozen BT.out 2
          have f3 := blk_frozen BT.out 3
          go_simp
          have BX2 := Aside0.mk (far4 BX.out GB.out.2.1.symm (.int .i64 15) (.int .i64 ax) (.int .i64 0) (.int .i64 0))
          have BP2 := Aside0.mk (far4 BP.out GB.out.1.symm (.int .i64 15) (.int .i64 ax) (.int .i64 0) (.int .i64 0))
          have BR2 := Aside0.mk (far4 BR.out GB.out.2.2.1.symm (.int .i64 15) (.int .i64 ax) (.int .i64 0) (.int .i64 0))
          have BT2 := Aside0.mk (four_set BT.out (.int .i64 15) (.int .i64 ax) (.int .i64 0) (.int .i64 0))
          have HB2 := Aside0.mk (four_below HB.out GB.out.2.2.2 (.int .i64 15) (.int .i64 ax) (.int .i64 0) (.int .i64 0))
          clear BX BP BR BT HB r0 r1 r2 r3 f0 f1 f2 f3
          generalize ((((wb.setCell ⟨gb, 0, none⟩ (.int .i64 15)).setCell ⟨gb, 1, none⟩ (.int .i64 ax)).setCell ⟨gb, 2, none⟩ (.int .i64 0)).setCell ⟨gb, 3, none⟩ (.int .i64 0)) = w5 at BX2 BP2 BR2 BT2 HB2 ⊢
          have BX := BX2
          have BP := BP2
          have BR := BR2
          have BT := BT2
          have HB := HB2
          clear BX2 BP2 BR2 BT2 HB2
          refine hK.out _ _ (by (try dsimp only); exact ⟨(blk_cell BX.out 0).trans rfl, (blk_cell BX.out 1).trans rfl⟩) (fun hHeld2 => ?_)
          clear hK K hHeld
          have hHeld := hHeld2
          clear hHeld2
          try simp only [Act.put, List.setIfInBounds_toArray, List.set_cons_zero, List.set_cons_succ]
          refine done_ (done_of HT_.out (by kernel_rfl)) ?_
          refine NoPanic.normal ?_
          have t0 : w5.cell? ⟨gb, 0, none⟩ = some (.int .i64 15) := (blk_cell BT.out 0).trans rfl
          have t1 : w5.cell? ⟨gb, 1, none⟩ = some (.int .i64 ax) := (blk_cell BT.out 1).trans rfl
          have t2 : w5.cell? ⟨gb, 2, none⟩ = some (.int .i64 0) := (blk_cell BT.out 2).trans rfl
          have t3 : w5.cell? ⟨gb, 3, none⟩ = some (.int .i64 0) := (blk_cell BT.out 3).trans rfl
          have x0 : w5.cell? ⟨w.heap.size + 1, 0, none⟩ = some (.int .i64 15) := (blk_cell BX.out 0).trans rfl
          have r0 : w5.cell? ⟨w.heap.size + 1 + 1, 0, none⟩ = some (.int .i64 0) := (blk_cell BR.out 0).trans rfl
          have r1 : w5.cell? ⟨w.heap.size + 1 + 1, 1, none⟩ = some (.int .i64 0) := (blk_cell BR.out 1).trans rfl
          have r2 : w5.cell? ⟨w.heap.size + 1 + 1, 2, none⟩ = some (.int .i64 0) := (blk_cell BR.out 2).trans rfl
          have r3 : w5.cell? ⟨w.heap.size + 1 + 1, 3, none⟩ = some (.int .i64 0) := (blk_cell BR.out 3).trans rfl
          have f0 := blk_frozen BR.out 0
          have g0 := blk_frozen BT.out 0
          have f1 := blk_frozen BR.out 1
          have g1 := blk_frozen BT.out 1
          have f2 := blk_frozen BR.out 2
          have g2 := blk_frozen BT.out 2
          have f3 := blk_frozen BR.out 3
          have g3 := blk_frozen BT.out 3
          obtain ⟨n0, n1, n2, n3⟩ := GB.out
          have n1' := n1.symm
          have n2' := n2.symm
          go_wp2
          refine bodyPost_ret (results_cell_row rfl _ _ (w.heap.size + 1 + 1) 128 #[.int .i64 15, .int .i64 ax, .int .i64 0, .int .i64 0] (0, 0) _ rfl (four_set (by first | exact BR.out | exact blk_far BR.out n2' _ | exact blk_far (blk_far BR.out n2' _) n2' _) _ _ _ _) Try.underlying128 rfl (by kernel_rfl)) rfl ?_
          exact ⟨_, _, _, _, rfl, four_below (by first | exact HB.out | exact HB.out.setCell n3 _ | exact (HB.out.setCell n3 _).setCell n3 _) (show w.heap.size ≤ w.heap.size + 1 + 1 by omega) _ _ _ _, z13_15 HN.out HZ.out HX.out HBB.out HC.out⟩
end Go.Proofs.Ythlllcmffgdcmab.Code
end

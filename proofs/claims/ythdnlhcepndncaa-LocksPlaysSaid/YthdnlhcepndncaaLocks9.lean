import Derived.Test.YthdnlhcepndncaaLocks8
namespace Go.Proofs.Ythdnlhcepndncaa.Locks
open Go.RowKit Go.Proofs.YthdnlhcepndncaaW.PrintWords Go.Proofs.YthdnlhcepndncaaW.PrintLast Go.Proofs.YthdnlhcepndncaaW.PrintMore
set_option linter.unusedVariables false
set_option linter.unusedSimpArgs false

set_option maxHeartbeats 8000000 in
set_option maxRecDepth 100000 in
theorem plays_law (A0 A1 : Option Addr) (c0 c1 : Nat) (xs : List Bool) (ys : List Int) (cut : Int) (w : World) (h0 : ReadsOf Value.bool false w A0 xs.length xs) (h1 : ReadsInt w .i64 A1 ys.length ys) :
    Calls Try.prog 5 #[.slice A0 xs.length c0, .slice A1 ys.length c1, .int .i64 cut] w fun e w' => e = .returned (.bool true) ∧ Below w.heap.size w w' := by
  have HR0 := Aside0.mk h0
  have HR1 := Aside0.mk h1
  clear h0 h1
  go_enter Try.func5, Try.ntmps5
  go_upto_block 0 with (first
    | (go_at_call 15; (with_reducible refine (awake_calls w).mono ?_); rintro e w1 ⟨rfl, hb⟩; have B1 := Aside0.mk hb; clear hb)
    | (go_at_call 16; (with_reducible refine (new_v w.heap.size w1 B1.out.size).mono ?_); rintro e w2 ⟨g, v, rfl, hs, hb⟩; have S2 := Aside0.mk hs; have B2 := Aside0.mk (below_then B1.out B1.out.size hb); clear hs hb))
  have HSt0 := Aside0.mk (show St w.heap.size ((w2.alloc (.cells #[.slice none 0 0] 36)).alloc (.cells #[.slice none 0 0] 36)) g w2.heap.size (-1) [] v (.slice none 0 0) from
    ⟨S2.out.below (two_below _ _ _), two_first _ _ _, ⟨own_nil _ _ _ _, ne_nil' v⟩, fun _ => rfl, by simp⟩)
  have HCl0 := Aside0.mk (show Cl w.heap.size ((w2.alloc (.cells #[.slice none 0 0] 36)).alloc (.cells #[.slice none 0 0] 36)) g (w2.heap.size + 1) v (.pointer none) from .inl ⟨rfl, _, two_new _ _ _⟩)
  have HB0 := Aside0.mk (B2.out.trans ((two_below w2 (.cells #[.slice none 0 0] 36) (.cells #[.slice none 0 0] 36)).mono B2.out.size))
  obtain ⟨bx, hbx⟩ : ∃ bx, bx = w2.heap.size := ⟨_, rfl⟩
  obtain ⟨by_, hby⟩ : ∃ by_, by_ = w2.heap.size + 1 := ⟨_, rfl⟩
  have HN := Aside0.mk (show bx ≠ by_ ∧ w.heap.size ≤ bx ∧ w.heap.size ≤ by_ ∧ w.heap.size ≤ g by have := B2.out.size; exact ⟨by omega, by omega, by omega, S2.out.1⟩)
  rw [← hbx] at HSt0
  rw [← hby] at HCl0
  rw [← hby, ← hbx]
  generalize ((w2.alloc (.cells #[.slice none 0 0] 36)).alloc (.cells #[.slice none 0 0] 36)) = w3 at HSt0 HCl0 HB0 ⊢
  clear hbx hby S2 B2 B1
  go_cut [9] (fun d wx => ∃ v, Cl w.heap.size wx g by_ v d ∧ Below w.heap.size w wx)
  case first =>
    go_wp2
    go_loopw [9, 11] (fun d i wr => ∃ (k : Nat) (o : Int) (ws : List Int) (v u : Value), k ≤ xs.length ∧ k ≤ ys.length ∧ k ≤ 50 ∧ i = .int .i64 k ∧ ws.length ≤ k ∧ St w.heap.size wr g bx o ws v u ∧ Cl w.heap.size wr g by_ v d ∧ Below w.heap.size w wr) (fun _ i _ => 50 - (intOf i).toNat)
    case atStart => exact ⟨0, -1, [], v, _, by omega, by omega, by omega, rfl, by simp, HSt0.out, HCl0.out, HB0.out⟩
    case round =>
      obtain ⟨k, o, ws, v, u, hkx, hky, hk50, rfl, hwl, hst, hcl, hb⟩ := hrel
      have HS := Aside0.mk hst
      have HC := Aside0.mk hcl
      have HB := Aside0.mk hb
      clear hst hcl hb
      by_cases hx : k < xs.length
      · have q1 : decide ((k : Int) < (xs.length : Int)) = true := decide_eq_true (by omega)
        by_cases hy : k < ys.length
        · have q2 : decide ((k : Int) < (ys.length : Int)) = true := decide_eq_true (by omega)
          by_cases h50 : k < 50
          · have q3 : decide ((k : Int) < 50) = true := decide_eq_true (by omega)
            obtain ⟨ad1, e1, k1⟩ := (HR1.out.below HB.out).at_ (k : Int) (by omega) (by omega)
            subst e1
            rw [Int.toNat_natCast] at k1
            obtain ⟨q, hq, hq0⟩ : ∃ q : Int, Go.bits .and .i64 (rd ys (k : Int)) 65535 = q ∧ 0 ≤ q := ⟨rd ys (k : Int) % 65536, i64_and65535 _, by omega⟩
            have hwk : ws.length ≤ 50 := by omega
            go_upto_if 48 with fail
            go_cut [9] (fun d wx => St w.heap.size wx g bx o ws v u ∧ Cl w.heap.size wx g by_ v d ∧ Below w.heap.size w wx)
            case first =>
              by_cases hcut : (k : Int) = cut
              · have q4 : ((k : Int) == cut) = true := by simpa using hcut
                go_wp2
                clear hcut
                obtain ⟨Au, cu, hu, _, _⟩ := HS.out.row.reads
                generalize (Z o ws).length = nz at hu
                subst hu
                have cx : wr.cell? ⟨bx, 0, none⟩ = some (.slice Au nz cu) := (blk_cell HS.out.blk 0).trans rfl
                have HW := Aside0.mk (show ws.length ≤ 1000 by omega)
                go_region_held3 (fun w' => w'.cell? ⟨bx, 0, none⟩ = some (.slice Au nz cu))
                  (first
                    | (go_keep; done)
                    | exact (blk_cell HS4.out.blk 0).trans rfl
                    | (rw [World.cell?_setCell_far _ _ _ _ (by have := HN.out.1; simp; omega)]; assumption))
                  (first | (go_at_call 20; refine (clone_calls w.heap.size g o ws v _ (LockV.drew HS.out.lock) HW.out).mono ?_; rintro e w4 ⟨gd, vd, rfl, hl_, hb_⟩; have HL4 := Aside0.mk (show LockV wr.heap.size w4 gd o ws vd from hl_); have HB4 := Aside0.mk (show Below wr.heap.size wr w4 from ⟨hb_.os, hb_.tape, hb_.output, hb_.size, hb_.block⟩); have HS4 := Aside0.mk (HS.out.below HB4.out); have HC4 := Aside0.mk (HC.out.below HB4.out); clear hl_ hb_; obtain ⟨ub, hub⟩ := HC4.out.blk; have HU := Aside0.mk hub; have d4 := (blk_cell hub 0).trans rfl; have f4 := blk_frozen hub 0; clear hub))
                go_wp2
                go_meet
                exact ⟨HS4.out.set HU.out HN.out.1 0 _, Cl.new HS.out HL4.out HB4.out HB.out.size HU.out HW.out, (HB.out.trans (HB4.out.mono HB.out.size)).setCell HN.out.2.2.1 _⟩
              · have q4 : ((k : Int) == cut) = false := by simpa using hcut
                go_wp2
                go_meet
                exact ⟨HS.out, HC.out, HB.out⟩
            case rest =>
              obtain ⟨hst, hcl, hb⟩ := hcut
              have HS1 := Aside0.mk hst
              have HC1 := Aside0.mk hcl
              have HB1 := Aside0.mk hb
              clear hst hcl hb
              obtain ⟨ad0, e0, k0⟩ := (HR0.out.below HB1.out).at_ (k : Int) (by omega) (by omega)
              subst e0
              rw [Int.toNat_natCast] at k0
              generalize rdOf false xs (k : Int) = tk at k0
              have HQ := Aside0.mk (show q ≠ -1 by omega)
              have HW := Aside0.mk hwk
              have cx : wc.cell? ⟨bx, 0, none⟩ = some u := (blk_cell HS1.out.blk 0).trans rfl
              obtain ⟨Au, cu, hu, _, _⟩ := HS1.out.row.reads
              generalize (Z o ws).length = nz at hu
              subst hu
              clear q1 q2 q3 k1 hq
              go_upto_if 55 with fail
              go_cut [] (fun wx => ∃ (o' : Int) (ws' : List Int) (v' u' : Value), ws'.length ≤ k + 1 ∧ St w.heap.size wx g bx o' ws' v' u' ∧ Cl w.heap.size wx g by_ v' u9 ∧ Below w.heap.size w wx)
              case first =>
                cases tk with
                | true =>
                  have HT := Aside0.mk (take_both HQ.out HS1.out)
                  have HZ := Aside0.mk (show (Z o ws).length ≤ 1000 by have h1 := Z_length o ws; omega)
                  have HW1 := Aside0.mk (show ws.length ≤ 1000 by omega)
                  go_wp2_with (first
                    | (go_at_call 21; (with_reducible refine (rtake_calls w.heap.size v _ (Z o ws) q wc HS1.out.row HZ.out).mono ?_); rintro e w4 ⟨u1, rfl, hu1, hb1⟩; rw [HT.out.2.2.2.1]; obtain ⟨A1, c1', rfl⟩ := own_slice hu1; have HB4 := Aside0.mk hb1; have HM5 := Aside0.mk ((show Mid w.heap.size w4 g bx o ws v _ _ (Z o ws ++ [q]) from ⟨HS1.out.lock.below hb1, blk_below HS1.out.blk hb1, Beside.new hu1 HS1.out.lock.2.2 HB1.out.size⟩).below (below_alloc (Below.refl _ _) (.cells #[.slice A1 (Z o ws ++ [q]).length c1'] 36))); have d5 := (blk_cell HM5.out.blk 0).trans rfl; have f5 := blk_frozen HM5.out.blk 0; have HM6 := Aside0.mk HM5.out.put; have HB6 := Aside0.mk ((below_alloc (below_step HB1.out hb1) (.cells #[.slice A1 (Z o ws ++ [q]).length c1'] 36)).setCell (p := ⟨bx, 0, none⟩) HN.out.2.1 (.slice A1 (Z o ws ++ [q]).length c1')); have HC6 := Aside0.mk (((HC1.out.below hb1).below (below_alloc (Below.refl _ _) (.cells #[.slice A1 (Z o ws ++ [q]).length c1'] 36))).set HM5.out.blk (Ne.symm HN.out.1) 0 (.slice A1 (Z o ws ++ [q]).length c1')); clear hu1 hb1; generalize (Z o ws ++ [q]).length = n1 at d5 f5 HM5 HM6 HB6 HC6 ⊢)
                    | (go_at_call 17; (with_reducible refine (take_v w.heap.size g o q ws v _ HM6.out.lock HW1.out HB6.out.size).mono ?_); rintro e w7 ⟨rfl, v7, hl7, hb7, hk7, hn7⟩; have HX := Aside0.mk (St.of_mid (HM6.out.step hl7 hk7 hn7) HT.out.1 HT.out.2.1 HT.out.2.2.1); have HC7 := Aside0.mk (HC6.out.step HM6.out.lock hk7 hn7); have HB7 := Aside0.mk (HB6.out.trans hb7); clear hl7 hb7 hk7 hn7))
                  go_meet
                  exact ⟨_, _, v7, _, by have := HT.out.2.2.2.2; omega, HX.out, HC7.out, HB7.out⟩
                | false =>
                  go_wp2_with (first
                    | (go_at_call 22; (with_reducible refine (rgive_calls w.heap.size g bx o q ws v _ wc HS1.out HQ.out (by omega) HB1.out.size).mono ?_); rintro e w4 ⟨u1, rfl, hr1, hb1, hz1, hp1, hn1⟩; obtain ⟨A1, c1', rfl, _, _⟩ := hr1.reads; have HM5 := Aside0.mk ((show Mid w.heap.size w4 g bx o ws v _ _ (Z (gO o q ws) (gW o q ws)) from ⟨HS1.out.lock.below hb1, blk_below HS1.out.blk hb1, hr1⟩).below (below_alloc (Below.refl _ _) (.cells #[.slice A1 (Z (gO o q ws) (gW o q ws)).length c1'] 36))); have HB5 := Aside0.mk (below_alloc (below_step HB1.out hb1) (.cells #[.slice A1 (Z (gO o q ws) (gW o q ws)).length c1'] 36)); have HC5 := Aside0.mk ((HC1.out.below hb1).below (below_alloc (Below.refl _ _) (.cells #[.slice A1 (Z (gO o q ws) (gW o q ws)).length c1'] 36))); have HF := Aside0.mk (And.intro hz1 (And.intro hp1 hn1)); have HT5 := Aside0.mk (blk_new w4 (.cells #[.slice A1 (Z (gO o q ws) (gW o q ws)).length c1'] 36)); clear hr1 hb1 hz1 hp1 hn1; generalize (Z (gO o q ws) (gW o q ws)).length = n1 at HM5 HB5 HC5 HT5 ⊢)
                    | (go_at_call 19; (with_reducible refine (give_v w.heap.size g o q ws v _ HM5.out.lock (by omega) HB5.out.size).mono ?_); rintro e w7 ⟨rfl, v7, hl7, hb7, hk7, hn7⟩; have HT7 := Aside0.mk (blk_step (v' := v7) HM5.out.lock HT5.out hk7); have d7 := (blk_cell HT7.out 0).trans rfl; have HM7 := Aside0.mk (HM5.out.step hl7 hk7 hn7); have d8 := (blk_cell HM7.out.blk 0).trans rfl; have f8 := blk_frozen HM7.out.blk 0; have HC7 := Aside0.mk (HC5.out.step HM5.out.lock hk7 hn7); have HB7 := Aside0.mk (HB5.out.trans hb7); clear hl7 hb7 hk7 hn7))
                  go_meet
                  exact ⟨_, _, v7, _, by have := HF.out.2.2; omega, St.of_mid HM7.out.put rfl HF.out.1 HF.out.2.1, HC7.out.set HM7.out.blk (Ne.symm HN.out.1) 0 _, HB7.out.setCell HN.out.2.1 _⟩
              case rest =>
                obtain ⟨o', ws', v', u', hwl', hst, hcl, hb⟩ := hcut
                have HS2 := Aside0.mk hst
                have HC2 := Aside0.mk hcl
                have HB2 := Aside0.mk hb
                have cx2 := (blk_cell hst.blk 0).trans rfl
                have HW2 := Aside0.mk (show ws'.length ≤ 1000 by omega)
                clear hst hcl hb
                go_wp2_with (first
                  | (go_at_call 23; (with_reducible refine (same_calls w.heap.size g bx o' ws' v' u' v' _ HS2.out.lock HS2.out.row HS2.out.none HW2.out).mono ?_); rintro e w9 ⟨rfl, hb9⟩; have HB9 := Aside0.mk hb9; clear hb9))
                exact ⟨⟨k + 1, o', ws', v', u', by omega, by omega, by omega, by go_num, hwl', HS2.out.below HB9.out, HC2.out.below HB9.out, HB2.out.trans (HB9.out.mono HB2.out.size)⟩, by simp [intOf]; omega⟩
          · have q3 : decide ((k : Int) < 50) = false := decide_eq_false (by omega)
            go_wp2
            go_meet
            exact ⟨v, HC.out, HB.out⟩
        · have q2 : decide ((k : Int) < (ys.length : Int)) = false := decide_eq_false (by omega)
          go_wp2
          go_meet
          exact ⟨v, HC.out, HB.out⟩
      · have q1 : decide ((k : Int) < (xs.length : Int)) = false := decide_eq_false (by omega)
        go_wp2
        go_meet
        exact ⟨v, HC.out, HB.out⟩
  case rest =>
    obtain ⟨v, hcl, hb⟩ := hcut
    have HB := Aside0.mk hb
    rcases hcl with ⟨rfl, u, hu⟩ | ⟨gd, od, wsd, vd, u, rfl, h2, h3, h4, h5, h6, h7, h8⟩
    · clear hb hu
      go_wp2
      go_ret
      exact ⟨rfl, HB.out⟩
    · have k0 : wc.cell? ⟨by_, 0, none⟩ = some u := (blk_cell h3 0).trans rfl
      have H2 := Aside0.mk h2
      have H4 := Aside0.mk h4
      have H7 := Aside0.mk h7
      have H8 := Aside0.mk h8
      clear h2 h3 h4 h5 h6 h7 h8 hb
      go_wp2_with (first
        | (go_at_call 23; (with_reducible refine (same_calls w.heap.size gd by_ od wsd vd u v wc H2.out H4.out H7.out H8.out).mono ?_); rintro e w5 ⟨rfl, hb⟩; have HB5 := Aside0.mk (HB.out.trans (hb.mono HB.out.size)); clear hb))
      go_ret
      exact ⟨rfl, HB5.out⟩
end Go.Proofs.Ythdnlhcepndncaa.Locks

import Derived.Test.YthlllcmffgdcmabHeapS
namespace Go.Proofs.Ythlllcmffgdcmab.Heap
open Go.RowKit Go.Proofs.YthlllcmffgdcmabW.PrintWords Go.Proofs.YthlllcmffgdcmabW.PrintLast Go.Proofs.YthlllcmffgdcmabW.PrintMore Go.Proofs.Ythlllcmffgdcmab.HeapPlain
attribute [local go_sem] max2_int min2_int max_two min_two
set_option linter.unusedVariables false
set_option linter.unusedSimpArgs false

theorem IsHeap.lower {B B' : Nat} {w : World} {p : Nat} {v : Value} {l : List It} {sq : Int} (h : IsHeap B w p v l sq) (hB : B' ≤ B) : IsHeap B' w p v l sq := ⟨Nat.le_trans hB h.ge, h.blk, own_weaken h.row hB⟩

theorem take_at {P : Program} {md : Region.Mode} {ops : Array Oper} {Q : Exit → Act → World → Prop} {S : World → Prop} {i : Nat} {oi : Oper} {d : Option Tmp} {v : Value} {fuel : Nat} {listed : Array Bool} {a : Act} {w : World} (hi : ops[i]? = some oi) (hd : oi.dst = d)
    (hs : Region.noSelect ops = true) (hf : Region.free md ops listed i = true) (hr : (Region.ready md ops listed).contains i = true)
    (hQ : ∀ c a w, Q (.panic c) (a.put d v) w → Q (.panic c) a w) (hy : YieldsIf P ops S oi v a) (hS : S w)
    (h : wpAnyH P md ops Q S fuel (listed.setIfInBounds i true) (a.put d v) w) : wpAnyH P md ops Q S (fuel + 1) listed a w := by
  subst hd
  exact wpAnyH_take hi hs hf hr hQ hy hS h

theorem srt_start {B p n : Nat} {w0 wc : World} {f : Nat → Int} {v : Value} {l : List It} (hB : w0.heap.size = B) (hH : IsHeap B wc p v l n) (hP : Pushed f n l) (hb : Below B w0 wc) :
    Srt B p (wc.heap.size + 1) wc.heap.size w0 f n 0 ((wc.alloc (.map #[] 0)).alloc (.cells (a3 It.z) 88)) l It.z v (.map []) := by
  have h1 := hH.below (below_alloc (below_alloc (Below.refl _ _) (.map #[] 0)) (.cells (a3 It.z) 88))
  have hz : ((wc.alloc (.map #[] 0)).alloc (.cells (a3 It.z) 88)).heap[wc.heap.size + 1]? = some (.cells (a3 It.z) 88 (0, 0)) := by
    have := blk_new (wc.alloc (.map #[] 0)) (.cells (a3 It.z) 88)
    rwa [show (wc.alloc (.map #[] 0)).heap.size = wc.heap.size + 1 by simp] at this
  exact ⟨h1, Sorts.start hP _, hz, fun e => by have := own_lt hH.row _ e; omega, (Cnt.made wc).below (below_alloc (Below.refl _ _) _), fun y _ => rfl, below_then hb hH.bsz (below_alloc (below_alloc (Below.refl _ _) _) _), by have := hH.bsz; omega⟩
theorem min_lit (B p : Nat) (v : Value) (l : List It) (sq : Int) (x : It) (w : World) (h : IsHeap B w p v l sq) (hl : 0 < l.length) (hx : g l 0 = x) : Calls Try.prog 44 #[.pointer (some ⟨p, 0, none⟩)] w fun e w' =>
    e = .returned (.tuple #[.agg #[.int .u64 x.t, .int .u64 x.s, .int .i64 x.d], .bool true]) ∧ Below w.heap.size w w' :=
  (min_some B p v l sq w h hl).mono fun e w' ⟨h1, h2⟩ => ⟨by rw [h1, hx]; rfl, h2⟩

theorem Srt.step_below {B p zl bm n k : Nat} {w0 w w' : World} {f : Nat → Int} {l : List It} {last : It} {v : Value} {D : DataW Unit} (h : Srt B p zl bm w0 f n k w l last v D) (hb : Below w.heap.size w w') : Srt B p zl bm w0 f n k w' l last v D :=
  ⟨h.heap.below hb, h.srt, blk_below h.lst hb, h.far, h.cnt.below hb, h.fresh, below_then h.below h.heap.bsz hb, h.ge⟩

theorem Step.undrew {B p : Nat} {v v' : Value} {a b : World} (h : Step B p v v' a.drew b) : Step B p v v' a b := ⟨⟨h.below.os, h.below.tape, h.below.output, h.below.size, h.below.block⟩, ⟨h.kept.1, h.kept.2⟩, h.moved⟩

set_option maxHeartbeats 4000000 in
set_option maxRecDepth 100000 in
theorem sorts_law (A : Option Addr) (c : Nat) (xs : List Int) (w : World) (hx : ReadsInt w .u64 A xs.length xs) : Calls Try.prog 11 #[.slice A xs.length c] w fun e w' => e = .returned (.bool true) ∧ Below w.heap.size w w' := by
  have HX := Aside0.mk hx
  obtain ⟨B, hBe⟩ : ∃ B, w.heap.size = B := ⟨_, rfl⟩
  have HBE := Aside0.mk hBe
  have HAW := Aside0.mk (awake_calls w)
  rw [hBe] at HAW ⊢
  obtain ⟨n, hn⟩ : ∃ n : Nat, (if (100 : Int) < (xs.length : Int) then (100 : Int) else (xs.length : Int)) = (n : Int) := ⟨if 100 < xs.length then 100 else xs.length, by split <;> split <;> omega⟩
  have hn15 : n ≤ 100 := by split at hn <;> omega
  have hnx : n ≤ xs.length := by split at hn <;> omega
  clear hBe hx
  go_enter Try.func11, Try.ntmps11
  go_upto_region 3 with (go_at_call 39; (with_reducible refine HAW.out.mono ?_); rintro e w1 ⟨rfl, hb⟩; have B1 := Aside0.mk (And.intro hb (show B ≤ w1.heap.size from HBE.out ▸ hb.size)); clear hb)
  have HN := Aside0.mk ((new_heap w1).lower B1.out.2)
  have HB2 := Aside0.mk (below_then B1.out.1 B1.out.2 (below_alloc (Below.refl w1.heap.size w1) (.cells #[.slice none 0 0, .int .u64 0] 83)))
  go_upto_block 0 with (fail)
  obtain ⟨p, hp⟩ : ∃ p, w1.heap.size = p := ⟨_, rfl⟩
  rw [hp] at HN ⊢
  clear hp
  change Code.wp _ _ _ _ (w1.alloc (.cells #[.slice none 0 0, .int .u64 0] 83))
  generalize w1.alloc (.cells #[.slice none 0 0, .int .u64 0] 83) = w2 at HN HB2 ⊢
  have HNN := Aside0.mk hn
  clear hn
  go_cut [] (fun wx => ∃ (v : Value) (l : List It), IsHeap B wx p v l n ∧ Pushed (fun i => rd xs i) n l ∧ Below B w wx)
  case first =>
    go_wp2
    go_loopw [17] (fun i wr => ∃ k : Nat, k ≤ n ∧ i = .int .i64 k ∧ ∃ (v : Value) (l : List It), IsHeap B wr p v l k ∧ Pushed (fun i => rd xs i) k l ∧ Below B w wr) (fun i _ => n - (intOf i).toNat)
    case atStart => exact ⟨0, by omega, rfl, _, _, HN.out, Pushed.zero _, HB2.out⟩
    case round =>
      obtain ⟨k, hkn, rfl, v, l, hH, hP, hb⟩ := hrel
      have HH := Aside0.mk hH
      have HP := Aside0.mk hP
      have HB := Aside0.mk hb
      clear hH hP hb HN HB2
      by_cases hlt : k < n
      · have q1 : decide ((k : Int) < (n : Int)) = true := decide_eq_true (by omega)
        obtain ⟨ad, e0, x0⟩ := (HX.out.below (w1 := wr) (by rw [HBE.out]; exact HB.out)).at_ (k : Int) (by omega) (by omega)
        subst e0
        rw [Int.toNat_natCast] at x0
        have HS := Aside0.mk (HP.out.push)
        have HLN := Aside0.mk (HP.out.len)
        obtain ⟨x, hxe⟩ : ∃ x, rd xs (k : Int) = x := ⟨_, rfl⟩
        have HI := Aside0.mk (show it (fun i : Nat => rd xs (i : Int)) k = ⟨x, k, k⟩ by rw [← hxe]; rfl)
        rw [hxe] at x0
        rw [HI.out] at HS
        clear hxe
        go_wp2_with (go_at_call 40; (with_reducible refine (push_calls B p v l k x k wr HH.out (by rw [HLN.out]; omega) (by omega) (by omega)).mono ?_); rintro e w3 ⟨rfl, v3, hR, hS⟩; have HR3 := Aside0.mk hR; have HB3 := Aside0.mk (HB.out.trans hS.below); clear hR hS)
        exact ⟨⟨k + 1, by omega, by go_num, v3, _, by have := HR3.out; rwa [← Int.natCast_succ] at this, HS.out, HB3.out⟩, by simp [intOf]; omega⟩
      · have q1 : decide ((k : Int) < (n : Int)) = false := decide_eq_false (by omega)
        obtain rfl : k = n := by omega
        go_wp2
        go_meet
        exact ⟨v, l, HH.out, HP.out, HB.out⟩
  case rest =>
    clear HN HB2
    obtain ⟨v, l, hH, hP, hb⟩ := hcut
    have HH := Aside0.mk hH
    have HP := Aside0.mk hP
    have HB := Aside0.mk hb
    clear hH hP hb
    have hmm := @run_makeMap Try.prog
    go_upto_block 2 with (fail)
    clear hmm
    have HS0 := Aside0.mk (srt_start (p := p) (f := fun i => rd xs i) HBE.out HH.out HP.out HB.out)
    obtain ⟨bm, hbm⟩ : ∃ b, wc.heap.size = b := ⟨_, rfl⟩
    rw [hbm] at HS0 ⊢
    clear hbm
    change Code.wp _ _ _ _ ((wc.alloc (.map #[] 0)).alloc (.cells (a3 It.z) 88))
    generalize (wc.alloc (.map #[] 0)).alloc (.cells (a3 It.z) 88) = w3 at HS0 ⊢
    obtain ⟨zl, hzl⟩ : ∃ z, bm + 1 = z := ⟨_, rfl⟩
    rw [hzl] at HS0 ⊢
    clear hzl HH HP HB
    go_wp2
    go_loopw [30] (fun iv wr => ∃ (k : Nat) (l : List It) (last : It) (v : Value) (D : DataW Unit), k ≤ n ∧ iv = .int .i64 k ∧ Srt B p zl bm w (fun i => rd xs i) n k wr l last v D) (fun iv _ => n - (intOf iv).toNat)
    case atStart => exact ⟨0, l, _, v, _, by omega, rfl, HS0.out⟩
    case round =>
      clear HS0
      obtain ⟨k, l, last, v, D, hkn, rfl, hS⟩ := hrel
      have HS := Aside0.mk hS
      clear hS
      by_cases hlt : k < n
      · have q1 : decide ((k : Int) < (n : Int)) = true := decide_eq_true (by omega)
        have hl0 : 0 < l.length := by have := HS.out.srt.len; omega
        obtain ⟨i, hin, hxi⟩ := HS.out.srt.mem _ (g_mem l 0 hl0)
        obtain ⟨ad, e0, x0⟩ := (HX.out.below (w1 := wr) (by rw [HBE.out]; exact HS.out.below)).at_ (i : Int) (by omega) (by omega)
        subst e0
        rw [Int.toNat_natCast] at x0
        obtain ⟨xt, hxt⟩ : ∃ x, rd xs (i : Int) = x := ⟨_, rfl⟩
        have HXI := Aside0.mk (show g l 0 = ⟨xt, i, i⟩ by rw [hxi, ← hxt]; rfl)
        rw [hxt] at x0
        obtain ⟨⟨lt, ls, ld⟩, hlast⟩ : ∃ y, last = y := ⟨_, rfl⟩
        subst hlast
        have HL0 := Aside0.mk (And.intro hl0 (show l.length ≤ 1000 by have := HS.out.srt.len; omega))
        have HI := Aside0.mk (show i < n from hin)
        clear hxi hxt hl0
        go_upto_region 16 with (go_at_call 44; (with_reducible refine (min_lit B p v l n ⟨xt, i, i⟩ wr HS.out.heap HL0.out.1 HXI.out).mono ?_); rintro e w4 ⟨rfl, hb4⟩; have HB4 := Aside0.mk hb4; clear hb4)
        have HZ5 := Aside0.mk (blk_new w4 (.cells #[.int .u64 xt, .int .u64 i, .int .i64 i] 88))
        have HB5 := Aside0.mk (below_alloc HB4.out (.cells #[.int .u64 xt, .int .u64 i, .int .i64 i] 88))
        have HZS := Aside0.mk (show wr.heap.size ≤ w4.heap.size from HB4.out.size)
        obtain ⟨zx, hzx⟩ : ∃ z, w4.heap.size = z := ⟨_, rfl⟩
        rw [hzx] at HZ5 HZS ⊢
        clear hzx
        generalize w4.alloc (.cells #[.int .u64 xt, .int .u64 i, .int .i64 i] 88) = w5 at HZ5 HB5 ⊢
        have HS5 := Aside0.mk (HS.out.step_below HB5.out)
        have c0 : w5.cell? ⟨zx, 0, none⟩ = some (.int .u64 xt) := (blk_cell HZ5.out 0).trans rfl
        have c1 : w5.cell? ⟨zx, 1, none⟩ = some (.int .u64 i) := (blk_cell HZ5.out 1).trans rfl
        have c2 : w5.cell? ⟨zx, 2, none⟩ = some (.int .i64 i) := (blk_cell HZ5.out 2).trans rfl
        have d0 : w5.cell? ⟨zl, 0, none⟩ = some (.int .u64 lt) := (blk_cell HS5.out.lst 0).trans rfl
        have d1 : w5.cell? ⟨zl, 1, none⟩ = some (.int .u64 ls) := (blk_cell HS5.out.lst 1).trans rfl
        have y0 := pw_cell_below HB5.out x0
        have HF := Aside0.mk (show (¬ ((zx = p) ∨ v.ownBlock = some zx)) ∧ (¬ ((zl = p) ∨ v.ownBlock = some zl)) ∧ (¬ (((ad.add i).block = p) ∨ v.ownBlock = some (ad.add i).block)) from by
          have h1 := HS.out.heap.plt
          have h2 := own_lt HS.out.heap.row
          have h3 := blk_ne HS5.out.lst HS5.out.heap.blk (by decide)
          have h4 := World.block_lt_of_cell? w _ (show w.cell? (ad.add i) = some (.int .u64 (rd xs (i : Int))) from by obtain ⟨ad', e', x'⟩ := HX.out.at_ (i : Int) (by omega) (by have := HI.out; omega); cases e'; rwa [Int.toNat_natCast] at x')
          rw [HBE.out] at h4
          have h5 := HS.out.heap.ge
          have h6 := own_base HS.out.heap.row
          have h7 := HZS.out
          refine ⟨?_, ?_, ?_⟩
          · rintro (h | h)
            · omega
            · have := h2 zx h; omega
          · rintro (h | h)
            · exact h3 h
            · exact HS.out.far h
          · rintro (h | h)
            · omega
            · have := h6 _ h; omega)
        have hcase : k = 0 ∨ (0 < k ∧ lt < xt) ∨ (0 < k ∧ lt = xt ∧ ls < (i : Int)) := by
          rcases Nat.eq_zero_or_pos k with h | h
          · exact .inl h
          · rcases HS.out.srt.last with h' | h'
            · omega
            · have := h' _ (g_mem l 0 HL0.out.1)
              rw [HXI.out] at this
              rcases this with h'' | h''
              · exact .inr (.inl ⟨h, h''⟩)
              · exact .inr (.inr ⟨h, h''⟩)
        have b1 : (0 : Int) ≤ (i : Int) := by omega
        have b2 : (i : Int) < (xs.length : Int) := by omega
        have b3 : i < xs.length := by omega
        rcases hcase with h | ⟨h, h'⟩ | ⟨h, h', h''⟩
        case' inl =>
          have r1 : decide ((0 : Int) < (k : Int)) = false := decide_eq_false (by omega)
          have r2 : decide (0 < k) = false := decide_eq_false (by omega)
          clear h
        case' inr.inl =>
          have r1 : decide ((0 : Int) < (k : Int)) = true := decide_eq_true (by omega)
          have r2 : decide (0 < k) = true := decide_eq_true (by omega)
          have r3 : decide (xt < lt) = false := decide_eq_false (by omega)
          have r4 : (xt == lt) = false := by rw [beq_eq_false_iff_ne]; omega
          have r5 : decide (xt = lt) = false := decide_eq_false (by omega)
          have r6 : ¬ xt < lt := by omega
          have r7 : ¬ xt = lt := by omega
        case' inr.inr =>
          have r1 : decide ((0 : Int) < (k : Int)) = true := decide_eq_true (by omega)
          have r2 : decide (0 < k) = true := decide_eq_true (by omega)
          have r5 : decide ((i : Int) ≤ ls) = false := decide_eq_false (by omega)
          have r6 : ¬ (i : Int) ≤ ls := by omega
          have r3 : decide (xt < lt) = false := decide_eq_false (by omega)
          have r4 : (xt == lt) = true := by rw [beq_iff_eq]; omega
          have r7 : decide (xt = lt) = true := decide_eq_true (by omega)
          have r8 : ¬ xt < lt := by omega
          have H' := Aside0.mk h'
          clear h'
        all_goals
          refine wp_region_noPanic ?_
          refine wp_region_held_drew (S := (fun w' => w'.cell? ⟨zx, 0, none⟩ = some (.int .u64 xt) ∧ w'.cell? ⟨zx, 1, none⟩ = some (.int .u64 i) ∧ w'.cell? ⟨zx, 2, none⟩ = some (.int .i64 i) ∧ w'.cell? ⟨zl, 0, none⟩ = some (.int .u64 lt) ∧ w'.cell? ⟨zl, 1, none⟩ = some (.int .u64 ls) ∧ w'.cell? (ad.add i) = some (.int .u64 xt))) (by kernel_rfl) (by (try dsimp only); (first | exact ⟨c0, c1, c2, d0, d1, y0⟩ | exact ⟨zc0, zc1, zc2, zd0, zd1, zy0⟩)) (fun hHeld => ?_)
          first | (refine take_at (i := 0) rfl (d := some 37) rfl (by kernel_rfl) (by kernel_rfl) (by kernel_rfl) (fun _ _ _ h => h) (Or.inr ⟨?_, rfl⟩) hHeld ?_; (focus (first | (go_simp; done) | (go_simp; unfold undef; simp; done)))) | (refine take_at (i := 0) (v := ?_) rfl (d := some 37) rfl (by kernel_rfl) (by kernel_rfl) (by kernel_rfl) (fun _ _ _ h => h) (Or.inl ⟨?_, ?_⟩) hHeld ?_; rotate_left; (focus (go_simp; done)); (focus (intro w hSw; (try dsimp only at hSw); go_simp; try (with_reducible rfl))))
          try simp only [Act.put, List.setIfInBounds_toArray, List.set_cons_zero, List.set_cons_succ]
          first | (refine take_at (i := 1) rfl (d := some 38) rfl (by kernel_rfl) (by kernel_rfl) (by kernel_rfl) (fun _ _ _ h => h) (Or.inr ⟨?_, rfl⟩) hHeld ?_; (focus (first | (go_simp; done) | (go_simp; unfold undef; simp; done)))) | (refine take_at (i := 1) (v := ?_) rfl (d := some 38) rfl (by kernel_rfl) (by kernel_rfl) (by kernel_rfl) (fun _ _ _ h => h) (Or.inl ⟨?_, ?_⟩) hHeld ?_; rotate_left; (focus (go_simp; done)); (focus (intro w hSw; (try dsimp only at hSw); go_simp; try (with_reducible rfl))))
          try simp only [Act.put, List.setIfInBounds_toArray, List.set_cons_zero, List.set_cons_succ]
          first | (refine take_at (i := 2) rfl (d := some 39) rfl (by kernel_rfl) (by kernel_rfl) (by kernel_rfl) (fun _ _ _ h => h) (Or.inr ⟨?_, rfl⟩) hHeld ?_; (focus (first | (go_simp; done) | (go_simp; unfold undef; simp; done)))) | (refine take_at (i := 2) (v := ?_) rfl (d := some 39) rfl (by kernel_rfl) (by kernel_rfl) (by kernel_rfl) (fun _ _ _ h => h) (Or.inl ⟨?_, ?_⟩) hHeld ?_; rotate_left; (focus (go_simp; done)); (focus (intro w hSw; (try dsimp only at hSw); go_simp; try (with_reducible rfl))))
          try simp only [Act.put, List.setIfInBounds_toArray, List.set_cons_zero, List.set_cons_succ]
          first | (refine take_at (i := 3) rfl (d := some 40) rfl (by kernel_rfl) (by kernel_rfl) (by kernel_rfl) (fun _ _ _ h => h) (Or.inr ⟨?_, rfl⟩) hHeld ?_; (focus (first | (go_simp; done) | (go_simp; unfold undef; simp; done)))) | (refine take_at (i := 3) (v := ?_) rfl (d := some 40) rfl (by kernel_rfl) (by kernel_rfl) (by kernel_rfl) (fun _ _ _ h => h) (Or.inl ⟨?_, ?_⟩) hHeld ?_; rotate_left; (focus (go_simp; done)); (focus (intro w hSw; (try dsimp only at hSw); go_simp; try (with_reducible rfl))))
          try simp only [Act.put, List.setIfInBounds_toArray, List.set_cons_zero, List.set_cons_succ]
          first | (refine take_at (i := 4) rfl (d := some 41) rfl (by kernel_rfl) (by kernel_rfl) (by kernel_rfl) (fun _ _ _ h => h) (Or.inr ⟨?_, rfl⟩) hHeld ?_; (focus (first | (go_simp; done) | (go_simp; unfold undef; simp; done)))) | (refine take_at (i := 4) (v := ?_) rfl (d := some 41) rfl (by kernel_rfl) (by kernel_rfl) (by kernel_rfl) (fun _ _ _ h => h) (Or.inl ⟨?_, ?_⟩) hHeld ?_; rotate_left; (focus (go_simp; done)); (focus (intro w hSw; (try dsimp only at hSw); go_simp; try (with_reducible rfl))))
          try simp only [Act.put, List.setIfInBounds_toArray, List.set_cons_zero, List.set_cons_succ]
          first | (refine take_at (i := 5) rfl (d := some 42) rfl (by kernel_rfl) (by kernel_rfl) (by kernel_rfl) (fun _ _ _ h => h) (Or.inr ⟨?_, rfl⟩) hHeld ?_; (focus (first | (go_simp; done) | (go_simp; unfold undef; simp; done)))) | (refine take_at (i := 5) (v := ?_) rfl (d := some 42) rfl (by kernel_rfl) (by kernel_rfl) (by kernel_rfl) (fun _ _ _ h => h) (Or.inl ⟨?_, ?_⟩) hHeld ?_; rotate_left; (focus (go_simp; done)); (focus (intro w hSw; (try dsimp only at hSw); go_simp; try (with_reducible rfl))))
          try simp only [Act.put, List.setIfInBounds_toArray, List.set_cons_zero, List.set_cons_succ]
          first | (refine take_at (i := 6) rfl (d := some 43) rfl (by kernel_rfl) (by kernel_rfl) (by kernel_rfl) (fun _ _ _ h => h) (Or.inr ⟨?_, rfl⟩) hHeld ?_; (focus (first | (go_simp; done) | (go_simp; unfold undef; simp; done)))) | (refine take_at (i := 6) (v := ?_) rfl (d := some 43) rfl (by kernel_rfl) (by kernel_rfl) (by kernel_rfl) (fun _ _ _ h => h) (Or.inl ⟨?_, ?_⟩) hHeld ?_; rotate_left; (focus (go_simp; done)); (focus (intro w hSw; (try dsimp only at hSw); go_simp; try (with_reducible rfl))))
          try simp only [Act.put, List.setIfInBounds_toArray, List.set_cons_zero, List.set_cons_succ]
          first | (refine take_at (i := 7) rfl (d := some 44) rfl (by kernel_rfl) (by kernel_rfl) (by kernel_rfl) (fun _ _ _ h => h) (Or.inr ⟨?_, rfl⟩) hHeld ?_; (focus (first | (go_simp; done) | (go_simp; unfold undef; simp; done)))) | (refine take_at (i := 7) (v := ?_) rfl (d := some 44) rfl (by kernel_rfl) (by kernel_rfl) (by kernel_rfl) (fun _ _ _ h => h) (Or.inl ⟨?_, ?_⟩) hHeld ?_; rotate_left; (focus (go_simp; done)); (focus (intro w hSw; (try dsimp only at hSw); go_simp; try (with_reducible rfl))))
          try simp only [Act.put, List.setIfInBounds_toArray, List.set_cons_zero, List.set_cons_succ]
          first | (refine take_at (i := 8) rfl (d := some 45) rfl (by kernel_rfl) (by kernel_rfl) (by kernel_rfl) (fun _ _ _ h => h) (Or.inr ⟨?_, rfl⟩) hHeld ?_; (focus (first | (go_simp; done) | (go_simp; unfold undef; simp; done)))) | (refine take_at (i := 8) (v := ?_) rfl (d := some 45) rfl (by kernel_rfl) (by kernel_rfl) (by kernel_rfl) (fun _ _ _ h => h) (Or.inl ⟨?_, ?_⟩) hHeld ?_; rotate_left; (focus (go_simp; done)); (focus (intro w hSw; (try dsimp only at hSw); go_simp; try (with_reducible rfl))))
          try simp only [Act.put, List.setIfInBounds_toArray, List.set_cons_zero, List.set_cons_succ]
          first | (refine take_at (i := 9) rfl (d := some 46) rfl (by kernel_rfl) (by kernel_rfl) (by kernel_rfl) (fun _ _ _ h => h) (Or.inr ⟨?_, rfl⟩) hHeld ?_; (focus (first | (go_simp; done) | (go_simp; unfold undef; simp; done)))) | (refine take_at (i := 9) (v := ?_) rfl (d := some 46) rfl (by kernel_rfl) (by kernel_rfl) (by kernel_rfl) (fun _ _ _ h => h) (Or.inl ⟨?_, ?_⟩) hHeld ?_; rotate_left; (focus (go_simp; done)); (focus (intro w hSw; (try dsimp only at hSw); go_simp; try (with_reducible rfl))))
          try simp only [Act.put, List.setIfInBounds_toArray, List.set_cons_zero, List.set_cons_succ]
          first | (refine take_at (i := 10) rfl (d := some 47) rfl (by kernel_rfl) (by kernel_rfl) (by kernel_rfl) (fun _ _ _ h => h) (Or.inr ⟨?_, rfl⟩) hHeld ?_; (focus (first | (go_simp; done) | (go_simp; unfold undef; simp; done)))) | (refine take_at (i := 10) (v := ?_) rfl (d := some 47) rfl (by kernel_rfl) (by kernel_rfl) (by kernel_rfl) (fun _ _ _ h => h) (Or.inl ⟨?_, ?_⟩) hHeld ?_; rotate_left; (focus (go_simp; done)); (focus (intro w hSw; (try dsimp only at hSw); go_simp; try (with_reducible rfl))))
          try simp only [Act.put, List.setIfInBounds_toArray, List.set_cons_zero, List.set_cons_succ]
          first | (refine take_at (i := 11) rfl (d := some 48) rfl (by kernel_rfl) (by kernel_rfl) (by kernel_rfl) (fun _ _ _ h => h) (Or.inr ⟨?_, rfl⟩) hHeld ?_; (focus (first | (go_simp; done) | (go_simp; unfold undef; simp; done)))) | (refine take_at (i := 11) (v := ?_) rfl (d := some 48) rfl (by kernel_rfl) (by kernel_rfl) (by kernel_rfl) (fun _ _ _ h => h) (Or.inl ⟨?_, ?_⟩) hHeld ?_; rotate_left; (focus (go_simp; done)); (focus (intro w hSw; (try dsimp only at hSw); go_simp; try (with_reducible rfl))))
          try simp only [Act.put, List.setIfInBounds_toArray, List.set_cons_zero, List.set_cons_succ]
          first | (refine take_at (i := 12) rfl (d := some 49) rfl (by kernel_rfl) (by kernel_rfl) (by kernel_rfl) (fun _ _ _ h => h) (Or.inr ⟨?_, rfl⟩) hHeld ?_; (focus (first | (go_simp; done) | (go_simp; unfold undef; simp; done)))) | (refine take_at (i := 12) (v := ?_) rfl (d := some 49) rfl (by kernel_rfl) (by kernel_rfl) (by kernel_rfl) (fun _ _ _ h => h) (Or.inl ⟨?_, ?_⟩) hHeld ?_; rotate_left; (focus (go_simp; done)); (focus (intro w hSw; (try dsimp only at hSw); go_simp; try (with_reducible rfl))))
          try simp only [Act.put, List.setIfInBounds_toArray, List.set_cons_zero, List.set_cons_succ]
          first | (refine take_at (i := 13) rfl (d := some 50) rfl (by kernel_rfl) (by kernel_rfl) (by kernel_rfl) (fun _ _ _ h => h) (Or.inr ⟨?_, rfl⟩) hHeld ?_; (focus (first | (go_simp; done) | (go_simp; unfold undef; simp; done)))) | (refine take_at (i := 13) (v := ?_) rfl (d := some 50) rfl (by kernel_rfl) (by kernel_rfl) (by kernel_rfl) (fun _ _ _ h => h) (Or.inl ⟨?_, ?_⟩) hHeld ?_; rotate_left; (focus (go_simp; done)); (focus (intro w hSw; (try dsimp only at hSw); go_simp; try (with_reducible rfl))))
          try simp only [Act.put, List.setIfInBounds_toArray, List.set_cons_zero, List.set_cons_succ]
          first | (refine take_at (i := 14) rfl (d := some 51) rfl (by kernel_rfl) (by kernel_rfl) (by kernel_rfl) (fun _ _ _ h => h) (Or.inr ⟨?_, rfl⟩) hHeld ?_; (focus (first | (go_simp; done) | (go_simp; unfold undef; simp; done)))) | (refine take_at (i := 14) (v := ?_) rfl (d := some 51) rfl (by kernel_rfl) (by kernel_rfl) (by kernel_rfl) (fun _ _ _ h => h) (Or.inl ⟨?_, ?_⟩) hHeld ?_; rotate_left; (focus (go_simp; done)); (focus (intro w hSw; (try dsimp only at hSw); go_simp; try (with_reducible rfl))))
          try simp only [Act.put, List.setIfInBounds_toArray, List.set_cons_zero, List.set_cons_succ]
          first | (refine take_at (i := 15) rfl (d := some 52) rfl (by kernel_rfl) (by kernel_rfl) (by kernel_rfl) (fun _ _ _ h => h) (Or.inr ⟨?_, rfl⟩) hHeld ?_; (focus (first | (go_simp; done) | (go_simp; unfold undef; simp; done)))) | (refine take_at (i := 15) (v := ?_) rfl (d := some 52) rfl (by kernel_rfl) (by kernel_rfl) (by kernel_rfl) (fun _ _ _ h => h) (Or.inl ⟨?_, ?_⟩) hHeld ?_; rotate_left; (focus (go_simp; done)); (focus (intro w hSw; (try dsimp only at hSw); go_simp; try (with_reducible rfl))))
          try simp only [Act.put, List.setIfInBounds_toArray, List.set_cons_zero, List.set_cons_succ]
          first | (refine take_at (i := 16) rfl (d := some 53) rfl (by kernel_rfl) (by kernel_rfl) (by kernel_rfl) (fun _ _ _ h => h) (Or.inr ⟨?_, rfl⟩) hHeld ?_; (focus (first | (go_simp; done) | (go_simp; unfold undef; simp; done)))) | (refine take_at (i := 16) (v := ?_) rfl (d := some 53) rfl (by kernel_rfl) (by kernel_rfl) (by kernel_rfl) (fun _ _ _ h => h) (Or.inl ⟨?_, ?_⟩) hHeld ?_; rotate_left; (focus (go_simp; done)); (focus (intro w hSw; (try dsimp only at hSw); go_simp; try (with_reducible rfl))))
          try simp only [Act.put, List.setIfInBounds_toArray, List.set_cons_zero, List.set_cons_succ]
          first | (refine take_at (i := 17) rfl (d := some 54) rfl (by kernel_rfl) (by kernel_rfl) (by kernel_rfl) (fun _ _ _ h => h) (Or.inr ⟨?_, rfl⟩) hHeld ?_; (focus (first | (go_simp; done) | (go_simp; unfold undef; simp; done)))) | (refine take_at (i := 17) (v := ?_) rfl (d := some 54) rfl (by kernel_rfl) (by kernel_rfl) (by kernel_rfl) (fun _ _ _ h => h) (Or.inl ⟨?_, ?_⟩) hHeld ?_; rotate_left; (focus (go_simp; done)); (focus (intro w hSw; (try dsimp only at hSw); go_simp; try (with_reducible rfl))))
          try simp only [Act.put, List.setIfInBounds_toArray, List.set_cons_zero, List.set_cons_succ]
          first | (refine take_at (i := 18) rfl (d := some 55) rfl (by kernel_rfl) (by kernel_rfl) (by kernel_rfl) (fun _ _ _ h => h) (Or.inr ⟨?_, rfl⟩) hHeld ?_; (focus (first | (go_simp; done) | (go_simp; unfold undef; simp; done)))) | (refine take_at (i := 18) (v := ?_) rfl (d := some 55) rfl (by kernel_rfl) (by kernel_rfl) (by kernel_rfl) (fun _ _ _ h => h) (Or.inl ⟨?_, ?_⟩) hHeld ?_; rotate_left; (focus (go_simp; done)); (focus (intro w hSw; (try dsimp only at hSw); go_simp; try (with_reducible rfl))))
          try simp only [Act.put, List.setIfInBounds_toArray, List.set_cons_zero, List.set_cons_succ]
          first | (refine take_at (i := 19) rfl (d := some 56) rfl (by kernel_rfl) (by kernel_rfl) (by kernel_rfl) (fun _ _ _ h => h) (Or.inr ⟨?_, rfl⟩) hHeld ?_; (focus (first | (go_simp; done) | (go_simp; unfold undef; simp; done)))) | (refine take_at (i := 19) (v := ?_) rfl (d := some 56) rfl (by kernel_rfl) (by kernel_rfl) (by kernel_rfl) (fun _ _ _ h => h) (Or.inl ⟨?_, ?_⟩) hHeld ?_; rotate_left; (focus (go_simp; done)); (focus (intro w hSw; (try dsimp only at hSw); go_simp; try (with_reducible rfl))))
          try simp only [Act.put, List.setIfInBounds_toArray, List.set_cons_zero, List.set_cons_succ]
          first | (refine take_at (i := 20) rfl (d := some 57) rfl (by kernel_rfl) (by kernel_rfl) (by kernel_rfl) (fun _ _ _ h => h) (Or.inr ⟨?_, rfl⟩) hHeld ?_; (focus (first | (go_simp; done) | (go_simp; unfold undef; simp; done)))) | (refine take_at (i := 20) (v := ?_) rfl (d := some 57) rfl (by kernel_rfl) (by kernel_rfl) (by kernel_rfl) (fun _ _ _ h => h) (Or.inl ⟨?_, ?_⟩) hHeld ?_; rotate_left; (focus (go_simp; done)); (focus (intro w hSw; (try dsimp only at hSw); go_simp; try (with_reducible rfl))))
          try simp only [Act.put, List.setIfInBounds_toArray, List.set_cons_zero, List.set_cons_succ]
          first | (refine take_at (i := 21) rfl (d := some 58) rfl (by kernel_rfl) (by kernel_rfl) (by kernel_rfl) (fun _ _ _ h => h) (Or.inr ⟨?_, rfl⟩) hHeld ?_; (focus (first | (go_simp; done) | (go_simp; unfold undef; simp; done)))) | (refine take_at (i := 21) (v := ?_) rfl (d := some 58) rfl (by kernel_rfl) (by kernel_rfl) (by kernel_rfl) (fun _ _ _ h => h) (Or.inl ⟨?_, ?_⟩) hHeld ?_; rotate_left; (focus (go_simp; done)); (focus (intro w hSw; (try dsimp only at hSw); go_simp; try (with_reducible rfl))))
          try simp only [Act.put, List.setIfInBounds_toArray, List.set_cons_zero, List.set_cons_succ]
          first | (refine take_at (i := 22) rfl (d := some 59) rfl (by kernel_rfl) (by kernel_rfl) (by kernel_rfl) (fun _ _ _ h => h) (Or.inr ⟨?_, rfl⟩) hHeld ?_; (focus (first | (go_simp; done) | (go_simp; unfold undef; simp; done)))) | (refine take_at (i := 22) (v := ?_) rfl (d := some 59) rfl (by kernel_rfl) (by kernel_rfl) (by kernel_rfl) (fun _ _ _ h => h) (Or.inl ⟨?_, ?_⟩) hHeld ?_; rotate_left; (focus (go_simp; done)); (focus (intro w hSw; (try dsimp only at hSw); go_simp; try (with_reducible rfl))))
          try simp only [Act.put, List.setIfInBounds_toArray, List.set_cons_zero, List.set_cons_succ]
          first | (refine take_at (i := 23) rfl (d := some 60) rfl (by kernel_rfl) (by kernel_rfl) (by kernel_rfl) (fun _ _ _ h => h) (Or.inr ⟨?_, rfl⟩) hHeld ?_; (focus (first | (go_simp; done) | (go_simp; unfold undef; simp; done)))) | (refine take_at (i := 23) (v := ?_) rfl (d := some 60) rfl (by kernel_rfl) (by kernel_rfl) (by kernel_rfl) (fun _ _ _ h => h) (Or.inl ⟨?_, ?_⟩) hHeld ?_; rotate_left; (focus (go_simp; done)); (focus (intro w hSw; (try dsimp only at hSw); go_simp; try (with_reducible rfl))))
          try simp only [Act.put, List.setIfInBounds_toArray, List.set_cons_zero, List.set_cons_succ]
          first | (refine take_at (i := 24) rfl (d := some 61) rfl (by kernel_rfl) (by kernel_rfl) (by kernel_rfl) (fun _ _ _ h => h) (Or.inr ⟨?_, rfl⟩) hHeld ?_; (focus (first | (go_simp; done) | (go_simp; unfold undef; simp; done)))) | (refine take_at (i := 24) (v := ?_) rfl (d := some 61) rfl (by kernel_rfl) (by kernel_rfl) (by kernel_rfl) (fun _ _ _ h => h) (Or.inl ⟨?_, ?_⟩) hHeld ?_; rotate_left; (focus (go_simp; done)); (focus (intro w hSw; (try dsimp only at hSw); go_simp; try (with_reducible rfl))))
          try simp only [Act.put, List.setIfInBounds_toArray, List.set_cons_zero, List.set_cons_succ]
          first | (refine take_at (i := 25) rfl (d := some 62) rfl (by kernel_rfl) (by kernel_rfl) (by kernel_rfl) (fun _ _ _ h => h) (Or.inr ⟨?_, rfl⟩) hHeld ?_; (focus (first | (go_simp; done) | (go_simp; unfold undef; simp; done)))) | (refine take_at (i := 25) (v := ?_) rfl (d := some 62) rfl (by kernel_rfl) (by kernel_rfl) (by kernel_rfl) (fun _ _ _ h => h) (Or.inl ⟨?_, ?_⟩) hHeld ?_; rotate_left; (focus (go_simp; done)); (focus (intro w hSw; (try dsimp only at hSw); go_simp; try (with_reducible rfl))))
          try simp only [Act.put, List.setIfInBounds_toArray, List.set_cons_zero, List.set_cons_succ]
          first | (refine take_at (i := 26) rfl (d := some 63) rfl (by kernel_rfl) (by kernel_rfl) (by kernel_rfl) (fun _ _ _ h => h) (Or.inr ⟨?_, rfl⟩) hHeld ?_; (focus (first | (go_simp; done) | (go_simp; unfold undef; simp; done)))) | (refine take_at (i := 26) (v := ?_) rfl (d := some 63) rfl (by kernel_rfl) (by kernel_rfl) (by kernel_rfl) (fun _ _ _ h => h) (Or.inl ⟨?_, ?_⟩) hHeld ?_; rotate_left; (focus (go_simp; done)); (focus (intro w hSw; (try dsimp only at hSw); go_simp; try (with_reducible rfl))))
          try simp only [Act.put, List.setIfInBounds_toArray, List.set_cons_zero, List.set_cons_succ]
          first | (refine take_at (i := 27) rfl (d := some 64) rfl (by kernel_rfl) (by kernel_rfl) (by kernel_rfl) (fun _ _ _ h => h) (Or.inr ⟨?_, rfl⟩) hHeld ?_; (focus (first | (go_simp; done) | (go_simp; unfold undef; simp; done)))) | (refine take_at (i := 27) (v := ?_) rfl (d := some 64) rfl (by kernel_rfl) (by kernel_rfl) (by kernel_rfl) (fun _ _ _ h => h) (Or.inl ⟨?_, ?_⟩) hHeld ?_; rotate_left; (focus (go_simp; done)); (focus (intro w hSw; (try dsimp only at hSw); go_simp; try (with_reducible rfl))))
          try simp only [Act.put, List.setIfInBounds_toArray, List.set_cons_zero, List.set_cons_succ]
          first | (refine take_at (i := 28) rfl (d := some 65) rfl (by kernel_rfl) (by kernel_rfl) (by kernel_rfl) (fun _ _ _ h => h) (Or.inr ⟨?_, rfl⟩) hHeld ?_; (focus (first | (go_simp; done) | (go_simp; unfold undef; simp; done)))) | (refine take_at (i := 28) (v := ?_) rfl (d := some 65) rfl (by kernel_rfl) (by kernel_rfl) (by kernel_rfl) (fun _ _ _ h => h) (Or.inl ⟨?_, ?_⟩) hHeld ?_; rotate_left; (focus (go_simp; done)); (focus (intro w hSw; (try dsimp only at hSw); go_simp; try (with_reducible rfl))))
          try simp only [Act.put, List.setIfInBounds_toArray, List.set_cons_zero, List.set_cons_succ]
          first | (refine take_at (i := 29) rfl (d := some 66) rfl (by kernel_rfl) (by kernel_rfl) (by kernel_rfl) (fun _ _ _ h => h) (Or.inr ⟨?_, rfl⟩) hHeld ?_; (focus (first | (go_simp; done) | (go_simp; unfold undef; simp; done)))) | (refine take_at (i := 29) (v := ?_) rfl (d := some 66) rfl (by kernel_rfl) (by kernel_rfl) (by kernel_rfl) (fun _ _ _ h => h) (Or.inl ⟨?_, ?_⟩) hHeld ?_; rotate_left; (focus (go_simp; done)); (focus (intro w hSw; (try dsimp only at hSw); go_simp; try (with_reducible rfl))))
          try simp only [Act.put, List.setIfInBounds_toArray, List.set_cons_zero, List.set_cons_succ]
          refine wpAnyH_ready (rs := [30]) (by kernel_rfl) (by simp) ?_
          refine AllReadyH.cons (o := _) rfl (fun K hK => ?_) AllReadyH.nil
          go_simp
          go_at_call 41; refine (cancel_first B p v l n i _ (by first | exact HS5.out.heap | exact HS5.out.heap.drew) HL0.out.2 HL0.out.1 (by rw [HXI.out])).mono ?_; rintro e w6 ⟨rfl, v6, hR6, hS6⟩; have zc0 := cell_kept (show World.cell? _ _ = _ from c0) hS6.kept (HF.out.1); have zc1 := cell_kept (show World.cell? _ _ = _ from c1) hS6.kept (HF.out.1); have zc2 := cell_kept (show World.cell? _ _ = _ from c2) hS6.kept (HF.out.1); have zd0 := cell_kept (show World.cell? _ _ = _ from d0) hS6.kept (HF.out.2.1); have zd1 := cell_kept (show World.cell? _ _ = _ from d1) hS6.kept (HF.out.2.1); have zy0 := cell_kept (show World.cell? _ _ = _ from y0) hS6.kept (HF.out.2.2); have HR6 := Aside0.mk hR6; have hK6 : Step B p v v6 w5 w6 := (by first | exact hS6 | exact hS6.undrew); have HS6 := Aside0.mk hK6; clear hR6 hS6 hK6
          refine hK.out _ _ (by (try dsimp only); (first | exact ⟨c0, c1, c2, d0, d1, y0⟩ | exact ⟨zc0, zc1, zc2, zd0, zd1, zy0⟩)) (fun hHeld2 => ?_)
          clear hK K hHeld
          have hHeld := hHeld2
          clear hHeld2
          try simp only [Act.put, List.setIfInBounds_toArray, List.set_cons_zero, List.set_cons_succ]
          first | (refine take_at (i := 31) rfl (d := some 68) rfl (by kernel_rfl) (by kernel_rfl) (by kernel_rfl) (fun _ _ _ h => h) (Or.inr ⟨?_, rfl⟩) hHeld ?_; (focus (first | (go_simp; done) | (go_simp; unfold undef; simp; done)))) | (refine take_at (i := 31) (v := ?_) rfl (d := some 68) rfl (by kernel_rfl) (by kernel_rfl) (by kernel_rfl) (fun _ _ _ h => h) (Or.inl ⟨?_, ?_⟩) hHeld ?_; rotate_left; (focus (go_simp; done)); (focus (intro w hSw; (try dsimp only at hSw); go_simp; try (with_reducible rfl))))
          try simp only [Act.put, List.setIfInBounds_toArray, List.set_cons_zero, List.set_cons_succ]
          first | (refine take_at (i := 32) rfl (d := some 69) rfl (by kernel_rfl) (by kernel_rfl) (by kernel_rfl) (fun _ _ _ h => h) (Or.inr ⟨?_, rfl⟩) hHeld ?_; (focus (first | (go_simp; done) | (go_simp; unfold undef; simp; done)))) | (refine take_at (i := 32) (v := ?_) rfl (d := some 69) rfl (by kernel_rfl) (by kernel_rfl) (by kernel_rfl) (fun _ _ _ h => h) (Or.inl ⟨?_, ?_⟩) hHeld ?_; rotate_left; (focus (go_simp; done)); (focus (intro w hSw; (try dsimp only at hSw); go_simp; try (with_reducible rfl))))
          try simp only [Act.put, List.setIfInBounds_toArray, List.set_cons_zero, List.set_cons_succ]
          first | (refine take_at (i := 33) rfl (d := some 70) rfl (by kernel_rfl) (by kernel_rfl) (by kernel_rfl) (fun _ _ _ h => h) (Or.inr ⟨?_, rfl⟩) hHeld ?_; (focus (first | (go_simp; done) | (go_simp; unfold undef; simp; done)))) | (refine take_at (i := 33) (v := ?_) rfl (d := some 70) rfl (by kernel_rfl) (by kernel_rfl) (by kernel_rfl) (fun _ _ _ h => h) (Or.inl ⟨?_, ?_⟩) hHeld ?_; rotate_left; (focus (go_simp; done)); (focus (intro w hSw; (try dsimp only at hSw); go_simp; try (with_reducible rfl))))
          try simp only [Act.put, List.setIfInBounds_toArray, List.set_cons_zero, List.set_cons_succ]
          first | (refine take_at (i := 34) rfl (d := some 71) rfl (by kernel_rfl) (by kernel_rfl) (by kernel_rfl) (fun _ _ _ h => h) (Or.inr ⟨?_, rfl⟩) hHeld ?_; (focus (first | (go_simp; done) | (go_simp; unfold undef; simp; done)))) | (refine take_at (i := 34) (v := ?_) rfl (d := some 71) rfl (by kernel_rfl) (by kernel_rfl) (by kernel_rfl) (fun _ _ _ h => h) (Or.inl ⟨?_, ?_⟩) hHeld ?_; rotate_left; (focus (go_simp; done)); (focus (intro w hSw; (try dsimp only at hSw); go_simp; try (with_reducible rfl))))
          try simp only [Act.put, List.setIfInBounds_toArray, List.set_cons_zero, List.set_cons_succ]
          first | (refine take_at (i := 35) rfl (d := some 72) rfl (by kernel_rfl) (by kernel_rfl) (by kernel_rfl) (fun _ _ _ h => h) (Or.inr ⟨?_, rfl⟩) hHeld ?_; (focus (first | (go_simp; done) | (go_simp; unfold undef; simp; done)))) | (refine take_at (i := 35) (v := ?_) rfl (d := some 72) rfl (by kernel_rfl) (by kernel_rfl) (by kernel_rfl) (fun _ _ _ h => h) (Or.inl ⟨?_, ?_⟩) hHeld ?_; rotate_left; (focus (go_simp; done)); (focus (intro w hSw; (try dsimp only at hSw); go_simp; try (with_reducible rfl))))
          try simp only [Act.put, List.setIfInBounds_toArray, List.set_cons_zero, List.set_cons_succ]
          first | (refine take_at (i := 36) rfl (d := some 73) rfl (by kernel_rfl) (by kernel_rfl) (by kernel_rfl) (fun _ _ _ h => h) (Or.inr ⟨?_, rfl⟩) hHeld ?_; (focus (first | (go_simp; done) | (go_simp; unfold undef; simp; done)))) | (refine take_at (i := 36) (v := ?_) rfl (d := some 73) rfl (by kernel_rfl) (by kernel_rfl) (by kernel_rfl) (fun _ _ _ h => h) (Or.inl ⟨?_, ?_⟩) hHeld ?_; rotate_left; (focus (go_simp; done)); (focus (intro w hSw; (try dsimp only at hSw); go_simp; try (with_reducible rfl))))
          try simp only [Act.put, List.setIfInBounds_toArray, List.set_cons_zero, List.set_cons_succ]
          first | (refine take_at (i := 37) rfl (d := some 74) rfl (by kernel_rfl) (by kernel_rfl) (by kernel_rfl) (fun _ _ _ h => h) (Or.inr ⟨?_, rfl⟩) hHeld ?_; (focus (first | (go_simp; done) | (go_simp; unfold undef; simp; done)))) | (refine take_at (i := 37) (v := ?_) rfl (d := some 74) rfl (by kernel_rfl) (by kernel_rfl) (by kernel_rfl) (fun _ _ _ h => h) (Or.inl ⟨?_, ?_⟩) hHeld ?_; rotate_left; (focus (go_simp; done)); (focus (intro w hSw; (try dsimp only at hSw); go_simp; try (with_reducible rfl))))
          try simp only [Act.put, List.setIfInBounds_toArray, List.set_cons_zero, List.set_cons_succ]
          first | (refine take_at (i := 38) rfl (d := some 75) rfl (by kernel_rfl) (by kernel_rfl) (by kernel_rfl) (fun _ _ _ h => h) (Or.inr ⟨?_, rfl⟩) hHeld ?_; (focus (first | (go_simp; done) | (go_simp; unfold undef; simp; done)))) | (refine take_at (i := 38) (v := ?_) rfl (d := some 75) rfl (by kernel_rfl) (by kernel_rfl) (by kernel_rfl) (fun _ _ _ h => h) (Or.inl ⟨?_, ?_⟩) hHeld ?_; rotate_left; (focus (go_simp; done)); (focus (intro w hSw; (try dsimp only at hSw); go_simp; try (with_reducible rfl))))
          try simp only [Act.put, List.setIfInBounds_toArray, List.set_cons_zero, List.set_cons_succ]
          first | (refine take_at (i := 39) rfl (d := some 76) rfl (by kernel_rfl) (by kernel_rfl) (by kernel_rfl) (fun _ _ _ h => h) (Or.inr ⟨?_, rfl⟩) hHeld ?_; (focus (first | (go_simp; done) | (go_simp; unfold undef; simp; done)))) | (refine take_at (i := 39) (v := ?_) rfl (d := some 76) rfl (by kernel_rfl) (by kernel_rfl) (by kernel_rfl) (fun _ _ _ h => h) (Or.inl ⟨?_, ?_⟩) hHeld ?_; rotate_left; (focus (go_simp; done)); (focus (intro w hSw; (try dsimp only at hSw); go_simp; try (with_reducible rfl))))
          try simp only [Act.put, List.setIfInBounds_toArray, List.set_cons_zero, List.set_cons_succ]
          first | (refine take_at (i := 40) rfl (d := some 77) rfl (by kernel_rfl) (by kernel_rfl) (by kernel_rfl) (fun _ _ _ h => h) (Or.inr ⟨?_, rfl⟩) hHeld ?_; (focus (first | (go_simp; done) | (go_simp; unfold undef; simp; done)))) | (refine take_at (i := 40) (v := ?_) rfl (d := some 77) rfl (by kernel_rfl) (by kernel_rfl) (by kernel_rfl) (fun _ _ _ h => h) (Or.inl ⟨?_, ?_⟩) hHeld ?_; rotate_left; (focus (go_simp; done)); (focus (intro w hSw; (try dsimp only at hSw); go_simp; try (with_reducible rfl))))
          try simp only [Act.put, List.setIfInBounds_toArray, List.set_cons_zero, List.set_cons_succ]
          first | (refine take_at (i := 41) rfl (d := some 78) rfl (by kernel_rfl) (by kernel_rfl) (by kernel_rfl) (fun _ _ _ h => h) (Or.inr ⟨?_, rfl⟩) hHeld ?_; (focus (first | (go_simp; done) | (go_simp; unfold undef; simp; done)))) | (refine take_at (i := 41) (v := ?_) rfl (d := some 78) rfl (by kernel_rfl) (by kernel_rfl) (by kernel_rfl) (fun _ _ _ h => h) (Or.inl ⟨?_, ?_⟩) hHeld ?_; rotate_left; (focus (go_simp; done)); (focus (intro w hSw; (try dsimp only at hSw); go_simp; try (with_reducible rfl))))
          try simp only [Act.put, List.setIfInBounds_toArray, List.set_cons_zero, List.set_cons_succ]
          first | (refine take_at (i := 42) rfl (d := some 79) rfl (by kernel_rfl) (by kernel_rfl) (by kernel_rfl) (fun _ _ _ h => h) (Or.inr ⟨?_, rfl⟩) hHeld ?_; (focus (first | (go_simp; done) | (go_simp; unfold undef; simp; done)))) | (refine take_at (i := 42) (v := ?_) rfl (d := some 79) rfl (by kernel_rfl) (by kernel_rfl) (by kernel_rfl) (fun _ _ _ h => h) (Or.inl ⟨?_, ?_⟩) hHeld ?_; rotate_left; (focus (go_simp; done)); (focus (intro w hSw; (try dsimp only at hSw); go_simp; try (with_reducible rfl))))
          try simp only [Act.put, List.setIfInBounds_toArray, List.set_cons_zero, List.set_cons_succ]
          refine wpAnyH_done (by kernel_rfl) ?_ _
          refine NoPanic.normal ?_
          have hs := srt_after HS5.out HS6.out HR6.out
          have HHF := Aside0.mk (show Go.Maps.has D (.int .i64 (i : Int)) = false from by have := HS5.out.fresh _ (g_mem l 0 HL0.out.1); rw [HXI.out] at this; exact this)
          have hlk := hs.1.new i (by omega) (by have := HI.out; omega) HHF.out
          have HZ6 := Aside0.mk (blk_kept HZ5.out HS6.out.kept HF.out.1)
          have HZB := Aside0.mk (show some zx ≠ some bm from fun e => hs.1.ne_blk HZ6.out (by injection e))
          have HLB := Aside0.mk (show some zl ≠ some bm from fun e => hs.2.2.2.2.2.1 (by injection e))
          have HC6 := Aside0.mk hs.1
          have HL6 := Aside0.mk hs.2.1
          clear zy0 hHeld hs zd0 zd1
          go_wp2_with (at_mapUpdate; refine cnt_update _ rfl _ _ _ rfl bm k D rfl HC6.out (by omega) i rfl rfl (by omega) (by have := HI.out; omega) HHF.out ?_; intro w7 hC7 hG7; have HN := Aside0.mk (srt_next HS5.out HL0.out.1 HXI.out HS6.out HR6.out hC7 hG7); have hz7 := blk_grown HZ6.out hG7 HZB.out; have hl7 := blk_grown HL6.out hG7 HLB.out; have e0 : w7.cell? ⟨zx, 0, none⟩ = some (.int .u64 xt) := (blk_cell hz7 0).trans rfl; have e1 : w7.cell? ⟨zx, 1, none⟩ = some (.int .u64 i) := (blk_cell hz7 1).trans rfl; have e2 : w7.cell? ⟨zx, 2, none⟩ = some (.int .i64 i) := (blk_cell hz7 2).trans rfl; have t0 : w7.cell? ⟨zl, 0, none⟩ = some (.int .u64 lt) := (blk_cell hl7 0).trans rfl; have t1 : w7.cell? ⟨zl, 1, none⟩ = some (.int .u64 ls) := (blk_cell hl7 1).trans rfl; have t2 : w7.cell? ⟨zl, 2, none⟩ = some (.int .i64 ld) := (blk_cell hl7 2).trans rfl; have f0 := blk_frozen hl7 0; have f1 := blk_frozen hl7 1; have f2 := blk_frozen hl7 2; clear hC7 hG7 hz7 hl7 hlk zc0 zc1 zc2)
          exact ⟨⟨k + 1, rm l 0, ⟨xt, i, i⟩, v6, _, by omega, by go_num, HN.out⟩, by simp [intOf]; omega⟩
      · have q1 : decide ((k : Int) < (n : Int)) = false := decide_eq_false (by omega)
        obtain rfl : k = n := by omega
        obtain rfl : l = [] := List.eq_nil_of_length_eq_zero (by have := HS.out.srt.len; omega)
        have hln := HS.out.cnt.own.len Try.underlying90 3
        rw [HS.out.cnt.size] at hln
        go_wp2_with (go_at_call 43; (with_reducible refine (len_calls B p v [] _ wr HS.out.heap).mono ?_); rintro e w6 ⟨rfl, rfl⟩)
        go_ret
        exact ⟨rfl, HS.out.below⟩
end Go.Proofs.Ythlllcmffgdcmab.Heap

import Derived.Test.YthlllcmffgdcmabHeap10
import Derived.Test.YthlllcmffgdcmabHeapGone
import Derived.Deep.DeepCutAuto
import Derived.Deep.CutBlock
namespace Go.Proofs.Ythlllcmffgdcmab.Heap
open Go.RowKit Go.Proofs.YthlllcmffgdcmabW.PrintWords Go.Proofs.YthlllcmffgdcmabW.PrintLast Go.Proofs.YthlllcmffgdcmabW.PrintMore Go.Proofs.Ythlllcmffgdcmab.HeapPlain
attribute [local go_sem] max2_int min2_int max_two min_two
set_option linter.unusedVariables false
set_option linter.unusedSimpArgs false

/-- A guard that was passed over guards nothing. -/
theorem undef_guard : (match (some undef : Option Value) with | some (Value.bool b) => some b | _ => none) = none := rfl
attribute [local go_sem] undef_guard
theorem IsHeap.low {B B' : Nat} {w : World} {p : Nat} {v : Value} {l : List It} {sq : Int} (h : IsHeap B w p v l sq) (hB : B' ≤ B) : IsHeap B' w p v l sq := ⟨Nat.le_trans hB h.ge, h.blk, own_weaken h.row hB⟩

/-- One of a number that is there, cancelled. -/
theorem cancel_yes (B p : Nat) (v : Value) (l : List It) (sq s : Int) (w : World) (h : IsHeap B w p v l sq) (hl : l.length ≤ 1000) (hs : ∃ k, k < l.length ∧ (g l k).s = s) : Calls Try.prog 41 #[.pointer (some ⟨p, 0, none⟩), .int .u64 s] w fun e w' =>
    e = .returned (.bool true) ∧ ∃ k v', k < l.length ∧ (g l k).s = s ∧ IsHeap B w' p v' (rm l k) sq ∧ Step B p v v' w w' :=
  (cancel_calls B p v l sq s w h hl (fun b w' => b = true ∧ ∃ k v', k < l.length ∧ (g l k).s = s ∧ IsHeap B w' p v' (rm l k) sq ∧ Step B p v v' w w')
    (fun i w' hi he _ v' hR hS => ⟨rfl, i, v', hi, he, hR, hS⟩)
    (fun w' hne _ _ => by obtain ⟨k, hk, he⟩ := hs; exact absurd he (hne k hk))).mono fun e w' ⟨b, h1, h2, h3⟩ => ⟨by rw [h1, h2], h3⟩
/-- None of a number, cancelled. -/
theorem cancel_no (B p : Nat) (v : Value) (l : List It) (sq s : Int) (w : World) (h : IsHeap B w p v l sq) (hl : l.length ≤ 1000) (hs : ∀ k, k < l.length → (g l k).s ≠ s) : Calls Try.prog 41 #[.pointer (some ⟨p, 0, none⟩), .int .u64 s] w fun e w' =>
    e = .returned (.bool false) ∧ IsHeap B w' p v l sq ∧ Step B p v v w w' :=
  (cancel_calls B p v l sq s w h hl (fun b w' => b = false ∧ IsHeap B w' p v l sq ∧ Step B p v v w w')
    (fun i w' hi he _ v' hR hS => absurd he (hs i hi))
    (fun w' hne hR hS => ⟨rfl, hR, hS⟩)).mono fun e w' ⟨b, h1, h2, h3⟩ => ⟨by rw [h1, h2], h3⟩

/-- Is one gone? -/
def gn (gs : List Bool) (j : Nat) : Bool := gs.getD j false
theorem gn_at {gs : List Bool} {w : World} {A : Option Addr} (h : ReadsOf Value.bool false w A gs.length gs) {j : Nat} (hj : j < gs.length) : ∃ ad, A = some ad ∧ w.cell? (ad.add j) = some (.bool (gn gs j)) := by
  obtain ⟨ad, e, k⟩ := h.at_ (j : Int) (by omega) (by omega)
  rw [Int.toNat_natCast] at k
  exact ⟨ad, e, k⟩
theorem gn_no {gs : List Bool} {j : Nat} (h : gs.length ≤ j) : gn gs j = false := by
  unfold gn
  rw [List.getD_eq_getElem?_getD, List.getElem?_eq_none h]
  rfl

theorem none_left {B p Bo n : Nat} {l os l' : List It} {v vo v' : Value} {sq : Int} {w w' : World} {xs : List Int} {gs : List Bool} (hp : ∀ x ∈ xs, 0 ≤ x ∧ x < 18446744073709551616) (hw : Woke B p Bo l v sq 18446744073709551615 w vo os v' l' w')
    (hg : Gone (fun i => rd xs i) (gn gs) n n l) (he : ∀ y ∈ l', (18446744073709551615 : Int) < y.t) : l' = [] := by
  rcases l' with _ | ⟨y, l'⟩
  · rfl
  · have h1 := he y (List.mem_cons_self ..)
    obtain ⟨j, _, hy, _⟩ := hg.mem (hw.perm.subset (List.mem_append_right os (List.mem_cons_self ..)))
    rw [hy] at h1
    have h2 : (it (fun i : Nat => rd xs (i : Int)) j).t = rd xs (j : Int) := rfl
    rw [h2] at h1
    have h3 : rd xs (j : Int) < 18446744073709551616 := by
      unfold rd
      rw [Int.toNat_natCast, List.getD_eq_getElem?_getD]
      by_cases h : j < xs.length
      · rw [List.getElem?_eq_getElem h]
        exact (hp _ (List.getElem_mem h)).2
      · rw [List.getElem?_eq_none (by omega)]; decide
    omega

set_option maxHeartbeats 4000000 in
set_option maxRecDepth 100000 in
theorem cancels_law (A A1 : Option Addr) (c c1 : Nat) (xs : List Int) (gs : List Bool) (w : World) (hx : ReadsInt w .u64 A xs.length xs) (hp : ∀ x ∈ xs, 0 ≤ x ∧ x < 18446744073709551616) (hg : ReadsOf Value.bool false w A1 gs.length gs) :
    Calls Try.prog 10 #[.slice A xs.length c, .slice A1 gs.length c1] w fun e w' => e = .returned (.bool true) ∧ Below w.heap.size w w' := by
  have HX := Aside0.mk hx
  have HG := Aside0.mk hg
  have HPX := Aside0.mk hp
  obtain ⟨B, hBe⟩ : ∃ B, w.heap.size = B := ⟨_, rfl⟩
  have HBE := Aside0.mk hBe
  have HAW := Aside0.mk (awake_calls w)
  rw [hBe] at HAW ⊢
  obtain ⟨n, hn⟩ : ∃ n : Nat, (if (60 : Int) < (xs.length : Int) then (60 : Int) else (xs.length : Int)) = (n : Int) := ⟨if 60 < xs.length then 60 else xs.length, by split <;> split <;> omega⟩
  have hn15 : n ≤ 60 := by split at hn <;> omega
  have hnx : n ≤ xs.length := by split at hn <;> omega
  clear hBe hx hg hp
  go_enter Try.func10, Try.ntmps10
  go_upto_region 3 with (go_at_call 39; (with_reducible refine HAW.out.mono ?_); rintro e w1 ⟨rfl, hb⟩; have B1 := Aside0.mk (And.intro hb (show B ≤ w1.heap.size from HBE.out ▸ hb.size)); clear hb)
  have HN := Aside0.mk ((new_heap w1).low B1.out.2)
  have HB2 := Aside0.mk (below_then B1.out.1 B1.out.2 (below_alloc (Below.refl w1.heap.size w1) (.cells #[.slice none 0 0, .int .u64 0] 83)))
  go_upto_block 0 with (fail)
  obtain ⟨p, hp⟩ : ∃ p, w1.heap.size = p := ⟨_, rfl⟩
  rw [hp] at HN ⊢
  clear hp
  change Code.wp _ _ _ _ (w1.alloc (.cells #[.slice none 0 0, .int .u64 0] 83))
  generalize w1.alloc (.cells #[.slice none 0 0, .int .u64 0] 83) = w2 at HN HB2 ⊢
  have HNN := Aside0.mk hn
  clear hn
  go_cut [] (fun wx => ∃ (v : Value) (l : List It), IsHeap B wx p v l n ∧ Pushed (fun i => rd xs i) n l ∧ Below B w wx)
  case first =>
    go_wp2
    go_loopw [19] (fun i wr => ∃ k : Nat, k ≤ n ∧ i = .int .i64 k ∧ ∃ (v : Value) (l : List It), IsHeap B wr p v l k ∧ Pushed (fun i => rd xs i) k l ∧ Below B w wr) (fun i _ => n - (intOf i).toNat)
    case atStart => exact ⟨0, by omega, rfl, _, _, HN.out, Pushed.zero _, HB2.out⟩
    case round =>
      obtain ⟨k, hkn, rfl, v, l, hH, hP, hb⟩ := hrel
      have HH := Aside0.mk hH
      have HP := Aside0.mk hP
      have HB := Aside0.mk hb
      clear hH hP hb HN HB2
      by_cases hlt : k < n
      · have q1 : decide ((k : Int) < (n : Int)) = true := decide_eq_true (by omega)
        obtain ⟨ad, e0, x0⟩ := (HX.out.below (w1 := wr) (by rw [HBE.out]; exact HB.out)).at_ (k : Int) (by omega) (by omega)
        subst e0
        rw [Int.toNat_natCast] at x0
        have HS := Aside0.mk (HP.out.push)
        have HLN := Aside0.mk (HP.out.len)
        obtain ⟨x, hxe⟩ : ∃ x, rd xs (k : Int) = x := ⟨_, rfl⟩
        have HI := Aside0.mk (show it (fun i : Nat => rd xs (i : Int)) k = ⟨x, k, k⟩ by rw [← hxe]; rfl)
        rw [hxe] at x0
        rw [HI.out] at HS
        clear hxe
        go_wp2_with (go_at_call 40; (with_reducible refine (push_calls B p v l k x k wr HH.out (by rw [HLN.out]; omega) (by omega) (by omega)).mono ?_); rintro e w3 ⟨rfl, v3, hR, hS⟩; have HR3 := Aside0.mk hR; have HB3 := Aside0.mk (HB.out.trans hS.below); clear hR hS)
        exact ⟨⟨k + 1, by omega, by go_num, v3, _, by have := HR3.out; rwa [← Int.natCast_succ] at this, HS.out, HB3.out⟩, by simp [intOf]; omega⟩
      · have q1 : decide ((k : Int) < (n : Int)) = false := decide_eq_false (by omega)
        obtain rfl : k = n := by omega
        go_wp2
        go_meet
        exact ⟨v, l, HH.out, HP.out, HB.out⟩
  case rest =>
    clear HN HB2
    obtain ⟨v, l, hH, hP, hb⟩ := hcut
    have HH := Aside0.mk hH
    have HP := Aside0.mk hP
    have HB := Aside0.mk hb
    clear hH hP hb
    go_upto_block 2 with (fail)
    go_cut [7] (fun lv wx => lv = .int .i64 (cnt (gn gs) n) ∧ ∃ (v : Value) (l : List It), IsHeap B wx p v l n ∧ Gone (fun i => rd xs i) (gn gs) n n l ∧ Below B w wx)
    case first =>
      go_wp2
      go_loopw [7, 30] (fun lv iv wr => ∃ i : Nat, i ≤ n ∧ iv = .int .i64 i ∧ lv = .int .i64 (cnt (gn gs) i) ∧ ∃ (v : Value) (l : List It), IsHeap B wr p v l n ∧ Gone (fun i => rd xs i) (gn gs) n i l ∧ Below B w wr) (fun _ iv _ => n - (intOf iv).toNat)
      case atStart => exact ⟨0, by omega, rfl, rfl, v, l, HH.out, Gone.start HP.out, HB.out⟩
      case round =>
        clear HH HP HB
        obtain ⟨i, hin, rfl, rfl, v, l, hH, hG, hb⟩ := hrel
        have HH := Aside0.mk hH
        have HGo := Aside0.mk hG
        have HB := Aside0.mk hb
        clear hH hG hb
        by_cases hlt : i < n
        · have q1 : decide ((i : Int) < (n : Int)) = true := decide_eq_true (by omega)
          have HLT := Aside0.mk hlt
          have HLL := Aside0.mk (HGo.out.len)
          have hcl := cnt_le (gn gs) i
          have hcase : (i < gs.length ∧ gn gs i = true) ∨ (i < gs.length ∧ gn gs i = false) ∨ gs.length ≤ i := by
            by_cases h : i < gs.length
            · cases hgn : gn gs i
              · exact .inr (.inl ⟨h, rfl⟩)
              · exact .inl ⟨h, rfl⟩
            · exact .inr (.inr (by omega))
          rcases hcase with ⟨h, hgn⟩ | ⟨h, hgn⟩ | h
          · have q2 : decide ((i : Int) < (gs.length : Int)) = true := decide_eq_true (by omega)
            obtain ⟨ad1, e1, y0⟩ := gn_at (HG.out.below (w1 := wr) (by rw [HBE.out]; exact HB.out)) h
            subst e1
            rw [hgn] at y0
            have HC := Aside0.mk (show cnt (gn gs) (i + 1) = cnt (gn gs) i by rw [cnt_succ, if_pos hgn]; rfl)
            have HGN := Aside0.mk hgn
            clear hgn
            go_wp2_with (first
              | (go_at_call 41; (with_reducible refine (cancel_yes B p v l n i wr HH.out (by have := HLL.out; omega) (HGo.out.has HLT.out)).mono ?_); rintro e w3 ⟨rfl, k3, v3, hk3, hs3, hR3, hS3⟩; have HR3 := Aside0.mk hR3; have HG3 := Aside0.mk (HGo.out.step_yes HLT.out HGN.out hk3 hs3); have HB3 := Aside0.mk (HB.out.trans hS3.below); clear hk3 hs3 hR3 hS3)
              | (go_at_call 41; (with_reducible refine (cancel_no B p v3 (rm l k3) n i w3 HR3.out (by have := HG3.out.len; omega) (HG3.out.none HGN.out)).mono ?_); rintro e w4 ⟨rfl, hR4, hS4⟩; have HR4 := Aside0.mk hR4; have HB4 := Aside0.mk (HB3.out.trans hS4.below); clear hR4 hS4))
            exact ⟨⟨i + 1, by omega, by go_num, by rw [HC.out], v3, _, HR4.out, HG3.out, HB4.out⟩, by simp [intOf]; omega⟩
          · have q2 : decide ((i : Int) < (gs.length : Int)) = true := decide_eq_true (by omega)
            obtain ⟨ad1, e1, y0⟩ := gn_at (HG.out.below (w1 := wr) (by rw [HBE.out]; exact HB.out)) h
            subst e1
            rw [hgn] at y0
            have HC := Aside0.mk (show cnt (gn gs) (i + 1) = cnt (gn gs) i + 1 by rw [cnt_succ, hgn]; rfl)
            have HGN := Aside0.mk hgn
            clear hgn
            go_wp2
            exact ⟨⟨i + 1, by omega, by go_num, by rw [HC.out]; go_num, v, l, HH.out, HGo.out.step_no HGN.out, HB.out⟩, by simp [intOf]; omega⟩
          · have q2 : decide ((i : Int) < (gs.length : Int)) = false := decide_eq_false (by omega)
            have hgn := gn_no h
            have HC := Aside0.mk (show cnt (gn gs) (i + 1) = cnt (gn gs) i + 1 by rw [cnt_succ, hgn]; rfl)
            have HGN := Aside0.mk hgn
            clear hgn
            go_wp2
            exact ⟨⟨i + 1, by omega, by go_num, by rw [HC.out]; go_num, v, l, HH.out, HGo.out.step_no HGN.out, HB.out⟩, by simp [intOf]; omega⟩
        · have q1 : decide ((i : Int) < (n : Int)) = false := decide_eq_false (by omega)
          obtain rfl : i = n := by omega
          go_wp2
          go_meet
          exact ⟨rfl, v, l, HH.out, HGo.out, HB.out⟩
    case rest =>
      clear HH HP HB
      obtain ⟨rfl, v, l, hH, hG, hb⟩ := hcut
      have HH := Aside0.mk hH
      have HGo := Aside0.mk hG
      have HB := Aside0.mk hb
      clear hH hG hb
      have HWK := Aside0.mk (wake_calls B p v l n 18446744073709551615 _ HH.out (by have := HGo.out.len; omega) HGo.out.ord)
      go_upto_block 4 with (go_at_call 42; (with_reducible refine HWK.out.mono ?_); rintro e w3 ⟨vo, os, v3, l3, rfl, hW, hE⟩; have HW := Aside0.mk hW; have hsl := own_slice hW.out; have HE := Aside0.mk hE; clear hW hE; obtain ⟨Ao, co, rfl⟩ := hsl)
      have HL3 := Aside0.mk (show l3 = [] from none_left HPX.out HW.out HGo.out HE.out)
      have HK := Aside0.mk (HGo.out.wakes HW.out.perm HW.out.sorted HL3.out)
      have HB3 := Aside0.mk (HB.out.trans HW.out.step.below)
      have hol : os.length ≤ 60 := by have := HK.out.len; have := cnt_le (gn gs) n; omega
      go_wp2
      go_loopw [58] (fun kv wr => ∃ k : Nat, k ≤ os.length ∧ kv = .int .i64 k ∧ Below w3.heap.size w3 wr) (fun kv _ => os.length - (intOf kv).toNat)
      case atStart => exact ⟨0, by omega, rfl, Below.refl _ _⟩
      case round =>
        obtain ⟨k, hk, rfl, hb⟩ := hrel
        have HBR := Aside0.mk hb
        clear hb
        by_cases hlt : k < os.length
        · have q1 : decide ((k : Int) < (os.length : Int)) = true := decide_eq_true (by omega)
          obtain ⟨j, hjn, hxj, hgj⟩ := HK.out.mem k hlt
          obtain ⟨go, cap, e, _, _, _, hcell, _⟩ := (show Row wr _ _ os from pw_own_below HW.out.out HBR.out).form (by omega)
          injection e with e el ec
          subst e
          clear el ec
          obtain ⟨o0, o1, o2⟩ := hcell k hlt
          have HCE := Aside0.mk hcell
          clear hcell
          obtain ⟨ad, e0, x0⟩ := (HX.out.below (w1 := wr) (by rw [HBE.out]; exact below_then HB3.out (Nat.le_trans HH.out.bsz HW.out.step.kept.1) HBR.out)).at_ (j : Int) (by omega) (by omega)
          subst e0
          rw [Int.toNat_natCast] at x0
          obtain ⟨xt, hxt⟩ : ∃ x, rd xs (j : Int) = x := ⟨_, rfl⟩
          have HXI := Aside0.mk (show g os k = ⟨xt, j, j⟩ by rw [hxj, ← hxt]; rfl)
          rw [HXI.out] at o0 o1 o2
          rw [hxt] at x0
          clear hxj hxt
          have hcg : (j < gs.length) ∨ gs.length ≤ j := by omega
          have hcp : k = 0 ∨ ∃ m lt ls ld, k = m + 1 ∧ g os m = ⟨lt, ls, ld⟩ ∧ (lt < xt ∨ (lt = xt ∧ ls < (j : Int))) := by
            rcases k with _ | m
            · exact .inl rfl
            · right
              have := HK.out.next m hlt
              rw [HXI.out] at this
              exact ⟨m, _, _, _, rfl, rfl, this⟩
          have b1 : (0 : Int) ≤ (j : Int) := by omega
          have b2 : (j : Int) < (xs.length : Int) := by omega
          have b3 : j < xs.length := by omega
          have ec : IntKind.u64.wrap (j : Int) = (j : Int) := by rw [IntKind.wrap_u64]; omega
          go_upto_region 23 with (fail)
          have HZ4 := Aside0.mk (blk_new wr (.cells #[.int .u64 xt, .int .u64 j, .int .i64 j] 88))
          have HB4 := Aside0.mk (below_alloc (Below.refl wr.heap.size wr) (.cells #[.int .u64 xt, .int .u64 j, .int .i64 j] 88))
          obtain ⟨zx, hzx⟩ : ∃ z, wr.heap.size = z := ⟨_, rfl⟩
          rw [hzx] at HZ4 ⊢
          clear hzx
          have HBF := Aside0.mk (below_then HBR.out HBR.out.size HB4.out)
          clear o0 o1 o2
          generalize wr.alloc (.cells #[.int .u64 xt, .int .u64 j, .int .i64 j] 88) = w4 at HZ4 HB4 HBF ⊢
          have c0 : w4.cell? ⟨zx, 0, none⟩ = some (.int .u64 xt) := (blk_cell HZ4.out 0).trans rfl
          have c1 : w4.cell? ⟨zx, 1, none⟩ = some (.int .u64 j) := (blk_cell HZ4.out 1).trans rfl
          have c2 : w4.cell? ⟨zx, 2, none⟩ = some (.int .i64 j) := (blk_cell HZ4.out 2).trans rfl
          have y0 := pw_cell_below HB4.out x0
          clear x0
          simp only [List.append_eq, List.cons_append, List.nil_append]
          rcases hcg with hjg | hjg
          case' inl =>
            have r1 : decide ((j : Int) < (gs.length : Int)) = true := decide_eq_true (by omega)
            have r2 : decide (j < gs.length) = true := decide_eq_true (by omega)
            obtain ⟨ad1, e1, y1⟩ := gn_at ((HG.out.below (w1 := wr) (by rw [HBE.out]; exact below_then HB3.out (Nat.le_trans HH.out.bsz HW.out.step.kept.1) HBR.out)).below HB4.out) hjg
            subst e1
            rw [hgj] at y1
            have b4 : (j : Int) < (gs.length : Int) := by omega
          case' inr =>
            have r1 : decide ((j : Int) < (gs.length : Int)) = false := decide_eq_false (by omega)
            have r2 : decide (j < gs.length) = false := decide_eq_false (by omega)
            have hjg' : ¬ j < gs.length := by omega
          all_goals
            clear hgj
            rcases hcp with h0 | ⟨m, lt, ls, ld, hm, hgm, hord⟩
            case' inl =>
              have s1 : decide ((0 : Int) < (k : Int)) = false := decide_eq_false (by omega)
              have s2 : decide (0 < k) = false := decide_eq_false (by omega)
              have s3 : ¬ 0 < k := by omega
              have s4 : ¬ (0 : Int) < (k : Int) := by omega
              clear h0
            case' inr =>
              obtain ⟨p0, p1, _⟩ := HCE.out m (by omega)
              rw [hgm] at p0 p1
              have p0' := pw_cell_below HB4.out p0
              have p1' := pw_cell_below HB4.out p1
              subst hm
              clear hgm p0 p1
              have e1 : IntKind.i64.wrap ((m : Int) + 1 - 1) = (m : Int) := by rw [IntKind.wrap_i64]; omega
              have e2 : IntKind.i64.wrap (m : Int) = (m : Int) := by rw [IntKind.wrap_i64]; omega
              have b5 : (0 : Int) ≤ (m : Int) := by omega
              have b6 : (m : Int) < (os.length : Int) := by omega
              have b7 : m < os.length := by omega
              rcases hord with hord | ⟨hord, hord2⟩
              case' inl =>
                have s1 : decide (xt < lt) = false := decide_eq_false (by omega)
                have s2 : (xt == lt) = false := by rw [beq_eq_false_iff_ne]; omega
                have s3 : decide (xt = lt) = false := decide_eq_false (by omega)
                have s4 : ¬ xt < lt := by omega
                have s5 : ¬ xt = lt := by omega
              case' inr =>
                have s1 : decide (xt < lt) = false := decide_eq_false (by omega)
                have s2 : (xt == lt) = true := by rw [beq_iff_eq]; omega
                have s3 : decide (xt = lt) = true := decide_eq_true (by omega)
                have s4 : ¬ xt < lt := by omega
                have s6 : decide ((j : Int) ≤ ls) = false := decide_eq_false (by omega)
                have s7 : ¬ (j : Int) ≤ ls := by omega
                have HO := Aside0.mk hord
                clear hord
            all_goals
              go_quiet (fail)
              go_wp2
              exact ⟨⟨_, hlt, by go_num, pw_below_drewN HBF.out _⟩, by simp [intOf]; omega⟩
        · have q1 : decide ((k : Int) < (os.length : Int)) = false := decide_eq_false (by omega)
          have HLN := Aside0.mk (show os.length = cnt (gn gs) n from HK.out.len)
          have q2 : ((os.length : Int) == (cnt (gn gs) n : Int)) = true := by rw [beq_iff_eq, HLN.out]
          have HR3 := Aside0.mk (show IsHeap B wr p v3 [] n from HL3.out ▸ HW.out.heap.below HBR.out)
          clear HLN
          go_wp2_with (go_at_call 43; (with_reducible refine (len_calls B p v3 [] _ wr HR3.out).mono ?_); rintro e w6 ⟨rfl, rfl⟩)
          go_ret
          exact ⟨rfl, below_then HB3.out (Nat.le_trans HH.out.bsz HW.out.step.kept.1) HBR.out⟩
end Go.Proofs.Ythlllcmffgdcmab.Heap

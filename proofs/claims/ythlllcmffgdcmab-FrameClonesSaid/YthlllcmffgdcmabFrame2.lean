import Derived.Test.YthlllcmffgdcmabFrame1
namespace Go.Proofs.Ythlllcmffgdcmab.Frame
open Go.RowKit Go.Proofs.YthlllcmffgdcmabW.PrintWords Go.Proofs.YthlllcmffgdcmabW.PrintLast Go.Proofs.YthlllcmffgdcmabW.PrintMore
set_option linter.unusedVariables false
set_option linter.unusedSimpArgs false

theorem nums_one (l : List Int) : ∀ u ∈ nums .i64 l, u.oneCell' = true := by
  intro u hu
  obtain ⟨x, _, rfl⟩ := List.mem_map.1 hu
  rfl
theorem Stk.cells {w : World} {B g n cap : Nat} {xs : List Int} (h : Stk w B (.slice (some ⟨g, 0, none⟩) n cap) n xs) (hn : 0 < n) : ∀ j, j < n * 11 → w.cell? ⟨g, j, none⟩ = some (.int .i64 (rd xs j)) := by
  obtain ⟨g', cap', e, _, _, _, hcell, _⟩ := h.form hn
  injection e with e
  injection e with e
  injection e with e
  subst e
  exact hcell
theorem stk_take {w : World} {B g n cap : Nat} {xs : List Int} (h : Stk w B (.slice (some ⟨g, 0, none⟩) n cap) n xs) (m : Nat) (hm : m ≤ n) (w' : World) (hb : Below w.heap.size w w') : ∀ j u, (nums .i64 (xs.take (m * 11)))[j]? = some u → w'.cell? ((⟨g, 0, none⟩ : Addr).add j) = some u := by
  intro j u hu
  have hj : j < m * 11 := by
    have := (List.getElem?_eq_some_iff.1 hu).1
    rw [nums_length, List.length_take] at this
    omega
  have hjn : j < n * 11 := by omega
  rw [add_plain]
  refine pw_cell_below hb ((h.cells (by omega) j hjn).trans ?_)
  rw [← hu]
  simp only [nums, List.getElem?_map, rd, Int.toNat_natCast, List.getD_eq_getElem?_getD]
  rw [List.getElem?_take_of_lt hj, List.getElem?_eq_getElem (by rw [h.1]; exact hjn)]
  rfl

theorem stk_olds0 {w : World} {B g n cap : Nat} {xs : List Int} (h : Stk w B (.slice (some ⟨g, 0, none⟩) n cap) n xs) (hn : 0 < n) : ∀ j u, (nums .i64 xs)[j]? = some u → w.cell? ((⟨g, 0, none⟩ : Addr).add j) = some u := by
  have := stk_take h n (Nat.le_refl _) w (Below.refl _ _)
  rw [List.take_of_length_le (by rw [h.1]; exact Nat.le_refl _)] at this
  exact this

theorem Stk.set {w : World} {B g n cap : Nat} {xs : List Int} (h : Stk w B (.slice (some ⟨g, 0, none⟩) n cap) n xs) {j : Nat} (hj : j < n * 11) (x : Int) : Stk (w.setCell ⟨g, j, none⟩ (.int .i64 x)) B (.slice (some ⟨g, 0, none⟩) n cap) n (xs.set j x) := by
  obtain ⟨hx, hl, h2⟩ := h
  refine ⟨by rw [List.length_set, hx], by rw [nums_length, List.length_set, hx], ?_⟩
  rcases h2 with ⟨e, _⟩ | ⟨g', cap', cur, e, hb, hh, hc, hm, hs, ht⟩
  · cases e
  · injection e with e e1 e2
    injection e with e
    injection e with e
    subst e e2
    refine .inr ⟨g, cap, cur.setIfInBounds j (.int .i64 x), rfl, hb, blk_set hh j _, hc, hm, by simpa using hs, ?_⟩
    rw [Array.toList_setIfInBounds, List.take_set, ht]
    simp [nums, List.map_set]

set_option maxHeartbeats 2000000 in
set_option maxRecDepth 100000 in
theorem clone_calls (B : Nat) (v : Value) (n : Nat) (xs : List Int) (w : World) (h : Stk w B v n xs) (hn : 0 < n) (hm : n ≤ 16) : Calls Try.prog 35 #[v] w fun e w' =>
    ∃ v', e = .returned v' ∧ Stk w' w.heap.size v' n xs ∧ Below w.heap.size w w' := by
  have H := Aside0.mk h
  obtain ⟨g, cap, rfl, hc, _, hg, hcell, _⟩ := h.form hn
  have HL := Aside0.mk h.1
  clear h hcell
  obtain ⟨j0, hj0, hz0, hz1, hz2⟩ := info_parts info70
  go_enter Try.func35, Try.ntmps35
  go_wp2_with (at_builtin; refine wpList_append_own _ rfl _ _ 63 rfl w.heap.size 70 j0 _ 11 88 Try.underlying63 hj0 hz0 hz1 hz2 rfl (by omega) _ 0 [] rfl (own_nil w w.heap.size 70 11) ⟨g, 0, none⟩ n cap (nums .i64 xs) rfl (by rw [nums_length]; exact HL.out) (fun j u hu => stk_olds0 H.out (by omega) j u hu) (nums_one xs) (by unfold maxLen; omega) (by omega) (Nat.le_refl _) ?_; intro v1 w1 hown hgr _; have HO := Aside0.mk hown; have HG := Aside0.mk hgr; clear hown hgr)
  go_ret
  refine ⟨v1, rfl, ⟨HL.out, ?_⟩, ?_⟩
  · have := HO.out
    simpa using this
  · exact (Below.refl w.heap.size w).grown HG.out (Nat.le_refl _) (fun k hk => by cases hk)

theorem top_still (g n cap : Nat) (w : World) (hn : 0 < n) (hm : n ≤ 1000) : Calls Try.prog 36 #[.slice (some ⟨g, 0, none⟩) n cap] w fun e w' => e = .returned (.pointer (some ⟨g, (n - 1) * 11, none⟩)) ∧ w' = w :=
  (top_calls g n cap w hn hm).mono fun _ _ ⟨h1, h2⟩ => ⟨h1, h2.symm⟩

set_option maxHeartbeats 2000000 in
set_option maxRecDepth 100000 in
theorem return_calls (B : Nat) (v : Value) (n : Nat) (xs : List Int) (x : Int) (w : World) (h : Stk w B v n xs) (hn : 1 < n) (hm : n ≤ 16) (i : Nat) (hi : i < 8) (hx : rd xs (((n - 1) * 11 + 10 : Nat) : Int) = i) : Calls Try.prog 38 #[v, .int .i64 x] w fun e w' =>
    ∃ v', e = .returned (.tuple #[v', .bool true]) ∧ Stk w' w.heap.size v' (n - 1) ((xs.take ((n - 1) * 11)).set ((n - 2) * 11 + 2 + i) x) ∧ Below w.heap.size w w' := by
  have H := Aside0.mk h
  obtain ⟨g, cap, rfl, hc, _, hg, hcell, _⟩ := h.form (by omega)
  have h1 : ((n : Int) < 2) = False := by simp; omega
  have hcap : (n : Int) ≤ (cap : Int) := by omega
  have e2 : ((n : Int) - 1) = ((n - 1 : Nat) : Int) := by omega
  have HL := Aside0.mk h.1
  have HX := Aside0.mk (hx ▸ hcell _ (by omega) : w.cell? ⟨g, (n - 1) * 11 + 10, none⟩ = some (.int .i64 (i : Int)))
  clear h hcell hx
  obtain ⟨j0, hj0, hz0, hz1, hz2⟩ := info_parts info70
  go_enter Try.func38, Try.ntmps38
  go_wp2_with (at_builtin; refine wpList_append_grows _ rfl _ _ 63 rfl 70 j0 _ 11 88 Try.underlying63 hj0 hz0 hz1 hz2 rfl (by omega) _ 0 0 [] rfl (fun _ => ⟨rfl, rfl⟩) rfl (fun b hb j u hu => by simp at hu) ⟨g, 0, none⟩ (n - 1) cap (nums .i64 (xs.take ((n - 1) * 11))) rfl (by rw [nums_length, List.length_take, HL.out]; omega) (stk_take H.out (n - 1) (by omega) _ (by first | exact Below.refl _ _ | exact below_alloc (Below.refl _ _) _)) (nums_one _) (by omega) (by unfold maxLen; omega) (by omega) ?_; intro v1 w1 hown hgr; have HO := Aside0.mk hown; have HG := Aside0.mk hgr; clear hown hgr)
  have hS1 : Stk w1 w.heap.size v1 (n - 1) (xs.take ((n - 1) * 11)) := by
    refine ⟨by rw [List.length_take, HL.out]; omega, ?_⟩
    have := HO.out
    simp only [Nat.zero_add, List.nil_append] at this
    exact own_weaken this (by simp)
  have hb1 : Below w.heap.size w w1 := (below_alloc (Below.refl w.heap.size w) _).grown HG.out (by simp) (fun k hk => by cases hk)
  have HS := Aside0.mk hS1
  have HB := Aside0.mk hb1
  obtain ⟨g1, cap1, rfl, hc1, hB1, hg1, hcell1, hfz1⟩ := hS1.form (by omega)
  have k1 := pw_cell_below hb1 HX.out
  have k2 := hcell1 ((n - 1 - 1) * 11 + 2 + i) (by omega)
  have f2 := hfz1 ((n - 1 - 1) * 11 + 2 + i)
  have b1 : (0 : Int) ≤ (i : Int) := by omega
  have b2 : (i : Int) < 8 := by omega
  clear hS1 hb1 hcell1 hfz1 HX HO HG
  go_still_tail 11, (by kernel_rfl)
  still_call (top_still g1 (n - 1) cap1 _ (by omega) (by omega))
  repeat still_step
  still_call (top_still g n cap _ (by omega) (by omega))
  repeat still_step
  refine wpStill_nil ?_
  change wpList _ _ _ _ _ w1.drew
  have k2' : w1.drew.cell? ⟨g1, (n - 1 - 1) * 11 + 2 + i, none⟩ = _ := k2
  have f2' : w1.drew.frozen? ⟨g1, (n - 1 - 1) * 11 + 2 + i, none⟩ = false := f2
  have HSd := Aside0.mk (show Stk w1.drew w.heap.size _ (n - 1) _ from HS.out)
  have HBd := Aside0.mk (HB.out.drew)
  clear k1 k2 f2
  generalize w1.drew = w2 at k2' f2' HSd HBd ⊢
  go_wp2
  go_ret2
  refine ⟨_, rfl, ?_, ?_⟩
  · rw [show (n - 2) * 11 + 2 + i = (n - 1 - 1) * 11 + 2 + i by omega]
    exact HSd.out.set (by omega) x
  · exact HBd.out.setCell hB1 _
end Go.Proofs.Ythlllcmffgdcmab.Frame

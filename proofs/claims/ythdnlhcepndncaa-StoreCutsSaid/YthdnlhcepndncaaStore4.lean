import Derived.Test.YthdnlhcepndncaaStore3
import Derived.Test.YthdnlhcepndncaaCopy
import Derived.Deep.RegionHeld3
import Derived.Lib.SlBuf
import Derived.StillTailTactics
namespace Go.Proofs.Ythdnlhcepndncaa.Stores
open Go.RowKit Go.Proofs.YthdnlhcepndncaaW.PrintWords Go.Proofs.YthdnlhcepndncaaW.PrintLast Go.Proofs.YthdnlhcepndncaaW.PrintMore Go.Proofs.Ythdnlhcepndncaa.Copy
attribute [local go_sem] max2_int min2_int max_two min_two
set_option linter.unusedVariables false
set_option linter.unusedSimpArgs false
theorem info5' : ∃ i, Try.prog.info? 5 = some i ∧ i.size = 1 := by
  have := info5
  rw [Option.map_eq_some_iff] at this
  obtain ⟨i, hi, h⟩ := this
  simp only [Prod.mk.injEq] at h
  exact ⟨i, hi, h.2.1⟩
variable (B g : Nat) (xs : List Int) (safe : Nat) (room left : Int) (dead : Bool) (w : World) (h : IsStore B w g xs safe room left dead)
include h

set_option maxHeartbeats 4000000 in
theorem crash_calls (keep K0 k : Int) (y : ByteArray) (m1 : (if keep < 0 then 0 else keep) = K0) (m2 : (if (xs.length : Int) - safe < K0 then (xs.length : Int) - safe else K0) = k) (hs1 : safe ≤ xs.length) (hl : xs.length ≤ 1000000) (hB : B ≤ w.heap.size) : Calls Try.prog 43 #[.pointer (some ⟨g, 0, none⟩), .int .i64 keep, .string y] w fun e w' =>
    e = .returned (.tuple #[]) ∧ IsStore B w' g (over (xs.take (safe + k.toNat)) safe y) (safe + k) room (-1) false ∧ Below B w w' := by
  obtain ⟨hg, v, hb, ho⟩ := h
  obtain ⟨A1, cc1, rfl⟩ := own_slice ho
  have c0 : w.cell? ⟨g, 0, none⟩ = some (.slice A1 xs.length cc1) := (blk_cell hb 0).trans rfl
  have c1 : w.cell? ⟨g, 1, none⟩ = some (.int .i64 safe) := (blk_cell hb 1).trans rfl
  have HB := Aside0.mk hb
  have HO := Aside0.mk ho
  have hk0 : 0 ≤ k := by omega
  have hk1 : k ≤ (xs.length : Int) - safe := by omega
  have q2 : IntKind.i64.wrap ((xs.length : Int) - safe) = (xs.length : Int) - safe := by rw [IntKind.wrap_i64]; omega
  clear hb ho
  go_enter Try.func43, Try.ntmps43
  go_wp2
  go_region_held3 (fun w' => w'.cell? ⟨g, 0, none⟩ = some (.slice A1 xs.length cc1) ∧ w'.cell? ⟨g, 1, none⟩ = some (.int .i64 safe)) (go_keep) (fail)
  have c0' : w.drew.cell? ⟨g, 0, none⟩ = some (.slice A1 xs.length cc1) := c0
  have c1' : w.drew.cell? ⟨g, 1, none⟩ = some (.int .i64 safe) := c1
  have HO1 := Aside0.mk (show w.drew.ownsRow B 5 1 (.slice A1 xs.length cc1) xs.length (nums .u8 xs) from HO.out)
  have HB1 := Aside0.mk (blk_drew HB.out)
  have HL1 := Aside0.mk ((Below.refl B w).drew)
  generalize w.drew = w1 at c0' c1' HO1 HB1 HL1 ⊢
  clear c0 c1 q2
  have q3 : IntKind.i64.wrap ((safe : Int) + k) = (safe : Int) + k := by rw [IntKind.wrap_i64]; omega
  have hcap := own_le HO1.out
  have f0 := blk_frozen HB1.out 0
  have q4 : 0 ≤ (safe : Int) + k := by clear q3; omega
  have q5 : (safe : Int) + k ≤ (cc1 : Int) := by clear q3; omega
  go_wp2
  go_still_tail 14, (by kernel_rfl)
  change wpList _ _ _ _ _ w1.drew
  have f0' : w1.drew.frozen? ⟨g, 0, none⟩ = false := f0
  have d0 : w1.drew.cell? ⟨g, 0, none⟩ = some (.slice A1 xs.length cc1) := c0'
  have HO2 := Aside0.mk (show w1.drew.ownsRow B 5 1 (.slice A1 xs.length cc1) xs.length (nums .u8 xs) from HO1.out)
  have HB2 := Aside0.mk (blk_drew HB1.out)
  have HL2 := Aside0.mk (HL1.out.drew)
  generalize w1.drew = w2 at d0 f0' HO2 HB2 HL2 ⊢
  clear c0' c1' f0 HO1 HB1 HL1
  go_wp2
  obtain ⟨m, hm⟩ : ∃ m, m = ((safe : Int) + k).toNat := ⟨_, rfl⟩
  have hmx : m ≤ xs.length := by clear q3; omega
  have hsm : safe ≤ m := by clear q3; omega
  have hmk : (m : Int) = safe + k := by clear q3; omega
  have hml : (xs.take m).length = m := by rw [List.length_take]; omega
  have HB3 := Aside0.mk (blk_set HB2.out 0 (.slice A1 m cc1))
  have HO3 := Aside0.mk (own_take (own_setCell HO2.out (own_ne HO2.out HB2.out (by decide)) (.slice A1 m cc1) (p := ⟨g, 0, none⟩)) hmx)
  have HL3 := Aside0.mk (HL2.out.setCell hg (.slice A1 m cc1) (p := ⟨g, 0, none⟩))
  rw [← hm]
  generalize w2.setCell ⟨g, 0, none⟩ (.slice A1 m cc1) = w3 at HB3 HO3 HL3 ⊢
  simp only [List.setIfInBounds_toArray, List.set_cons_zero] at HB3
  have hty : List.take (m * 1) (nums .u8 xs) = nums .u8 (xs.take m) := by rw [Nat.mul_one]; simp [nums, List.map_take]
  rw [hty] at HO3
  obtain ⟨ys, hys⟩ : ∃ ys, ys = xs.take m := ⟨_, rfl⟩
  have hyl : ys.length = m := by rw [hys]; exact hml
  rw [← hys] at HO3
  obtain ⟨i5, hi5, hs5⟩ := info5'
  have e0 : w3.cell? ⟨g, 0, none⟩ = some (.slice A1 m cc1) := (blk_cell HB3.out 0).trans rfl
  have e1 : w3.cell? ⟨g, 1, none⟩ = some (.int .i64 safe) := (blk_cell HB3.out 1).trans rfl
  have hcut := cut_from (P := Try.prog) 66 5 .i64 Try.underlying66 hi5 1 hs5 A1 m cc1 (safe : Int) (by omega) (by omega)
  rw [Nat.mul_one, Int.toNat_natCast] at hcut
  have hml' : m - safe = ys.length - safe := by omega
  have HO4 := Aside0.mk (show w3.drew.ownsRow B 5 1 (.slice A1 ys.length cc1) ys.length (nums .u8 ys) by rw [hyl]; exact HO3.out)
  have HC := Aside0.mk (run_copy_text (P := Try.prog) w3.drew 66 9 3 5 Try.underlying66 (by rw [hi5, Option.map_some, hs5]) B A1 cc1 ys HO4.out safe (by omega) y)
  rw [← hml'] at HC
  generalize (if cc1 = safe then A1 else A1.map (·.add safe)) = A2 at hcut HC
  have HM := Aside0.mk (And.intro hmk (And.intro hyl hys))
  clear hmk hyl hys hml' hm hml hty hi5 hs5 q3
  go_still_tail 10, (by kernel_rfl)
  change wpList _ _ _ _ _ w3.drew
  obtain ⟨w4, hr, ho4, hg4⟩ := HC.out
  have HR := Aside0.mk hr
  have HO5 := Aside0.mk ho4
  have HB4 := Aside0.mk (blk_grown (blk_drew HB3.out) hg4 (own_ne HO4.out (blk_drew HB3.out) (by decide)))
  have HL4 := Aside0.mk (HL3.out.drew.grown hg4 (Nat.le_trans hB HL3.out.size) (own_base HO4.out))
  clear hr ho4 hg4 HC
  generalize w3.drew = w3d at HR ⊢
  have HM1 := HM.out.1
  have hml5 := (over_length ys safe y (by rw [HM.out.2.1]; exact hsm)).trans HM.out.2.1
  have HO6 := Aside0.mk (show w4.ownsRow B 5 1 (.slice A1 m cc1) (over ys safe y).length (nums .u8 (over ys safe y)) by have := HO5.out; rwa [HM.out.2.1] at this)
  have z0 : w4.cell? ⟨g, 0, none⟩ = some (.slice A1 m cc1) := (blk_cell HB4.out 0).trans rfl
  have z1 : w4.cell? ⟨g, 1, none⟩ = some (.int .i64 safe) := (blk_cell HB4.out 1).trans rfl
  have z3 : w4.cell? ⟨g, 3, none⟩ = some (.int .i64 left) := (blk_cell HB4.out 3).trans rfl
  have z4 : w4.cell? ⟨g, 4, none⟩ = some (.bool dead) := (blk_cell HB4.out 4).trans rfl
  have y1 := blk_frozen HB4.out 1
  have y3 := blk_frozen HB4.out 3
  have y4 := blk_frozen HB4.out 4
  have HML := Aside0.mk hml5
  have HM2 := Aside0.mk HM1
  clear hml5 HM1 d0 e0 e1 f0' hcut
  have hr := HR.out
  clear HR
  go_wp2
  refine bodyPost_end (results_none rfl _ _ _) rfl ⟨rfl, ⟨hg, .slice A1 m cc1, ?_, ?_⟩, ((HL4.out.setCell hg _).setCell hg _).setCell hg _⟩
  · have := blk_set (blk_set (blk_set HB4.out 4 (.bool false)) 3 (.int .i64 (-1))) 1 (.int .i64 (m : Int))
    rw [← HM2.out]
    simpa using this
  · have hne4 := own_ne HO6.out HB4.out (by decide)
    have := own_setCell (own_setCell (own_setCell HO6.out (p := ⟨g, 4, none⟩) hne4 (.bool false)) (p := ⟨g, 3, none⟩) hne4 (.int .i64 (-1))) (p := ⟨g, 1, none⟩) hne4 (.int .i64 (m : Int))
    have hsk : safe + k.toNat = m := by have := HM2.out; clear hr; omega
    rw [hsk, ← HM.out.2.2]
    exact this
end Go.Proofs.Ythdnlhcepndncaa.Stores

/- One field of one instruction is any number: what is written, and what stays. -/
import Derived.Test.YthlllcmffgdcmabZLaws0
section
namespace Go.Proofs.Ythlllcmffgdcmab.Code
open Go.RowKit Go.Proofs.YthlllcmffgdcmabW.PrintWords Go.Proofs.YthlllcmffgdcmabW.PrintLast Go.Proofs.YthlllcmffgdcmabW.PrintMore
open Go.Proofs.Ythlllcmffgdcmab.PCodeChecks
set_option linter.unusedVariables false
set_option linter.unusedSimpArgs false
def put128 (x : S128) (j : Nat) (v : Int) : S128 := match j with | 0 => ⟨v, x.f1, x.f2, x.f3⟩ | 1 => ⟨x.f0, v, x.f2, x.f3⟩ | 2 => ⟨x.f0, x.f1, v, x.f3⟩ | _ => ⟨x.f0, x.f1, x.f2, v⟩
theorem QL.field {w wx : World} {gq g0 c0 : Nat} {v1 v3 : Value} {lk : Int} {L0 : List (List S128)} {L1 : List Int} {L3 : List S134}
    (h : QL w wx gq (.slice (some ⟨g0, 0, none⟩) L0.length c0) v1 lk v3 L0 L1 L3) (i k : Nat) (hi : i < L0.length) (hk : k < (rd_L5 L0 (i : Nat)).length) :
    ∃ gi ci, wx.cell? ⟨g0, i, none⟩ = some (.slice (some ⟨gi, 0, none⟩) (rd_L5 L0 (i : Nat)).length ci) ∧ (∃ cells, wx.heap[gi]? = some (.cells cells 128 (0, 0))) ∧ (∀ j, j < 4 → ∃ u, wx.cell? ⟨gi, k * 4 + j, none⟩ = some (.int .i64 u)) ∧ (∀ j, wx.frozen? ⟨gi, k * 4 + j, none⟩ = false) ∧
      ∀ j x, j < 4 → QL w (wx.setCell ⟨gi, k * 4 + j, none⟩ (.int .i64 x)) gq (.slice (some ⟨g0, 0, none⟩) (L0.set i ((rd_L5 L0 (i : Nat)).set k (put128 (rd_T128 (rd_L5 L0 (i : Nat)) (k : Nat)) j x))).length c0) v1 lk v3 (L0.set i ((rd_L5 L0 (i : Nat)).set k (put128 (rd_T128 (rd_L5 L0 (i : Nat)) (k : Nat)) j x))) L1 L3 := by
  obtain ⟨oki, c, hcl, hM, hcc, hoki, hback⟩ := Kd.S_borrow h.H0 ([] : List S128) (i : Int) (by omega) (by omega)
  have er : L0.getD (i : Int).toNat [] = rd_L5 L0 (i : Nat) := rfl
  rw [er] at hM
  generalize rd_L5 L0 (i : Nat) = r at hM hk ⊢
  obtain ⟨v, rfl, hR⟩ := hM
  obtain ⟨gi, ci, rfl, hg1, hg2, cells, hcells⟩ := Kd.R_form hR (by omega)
  obtain ⟨c2, hcl2, hM2, hcc2, hfr2⟩ := Kd.R_elem hR z128 (k : Int) (by omega) (by omega)
  have er2 : r.getD (k : Int).toNat z128 = rd_T128 r (k : Nat) := rfl
  rw [er2] at hM2
  generalize rd_T128 r (k : Nat) = q at hM2 ⊢
  obtain rfl := k128_openM hM2
  have e2 : ∀ j, (k : Int).toNat * k128.sz + j = k * 4 + j := fun j => rfl
  have hcell := hcc 0 _ rfl
  have e1 : Addr.add ⟨g0, 0, none⟩ ((i : Int).toNat * (Kd.slice 128 k128).sz + 0) = ⟨g0, i, none⟩ := by
    show Addr.add ⟨g0, 0, none⟩ (i * 1 + 0) = _
    simp [add_at]
  rw [e1] at hcell
  refine ⟨gi, ci, hcell, ⟨_, hcells⟩, fun j hj => ?_, fun j => by have := hfr2 j; rwa [e2] at this, fun j x hj => ?_⟩
  · have h4 := hcc2 j
    rw [e2] at h4
    match j, hj with
    | 0, _ => exact ⟨_, h4 _ rfl⟩
    | 1, _ => exact ⟨_, h4 _ rfl⟩
    | 2, _ => exact ⟨_, h4 _ rfl⟩
    | 3, _ => exact ⟨_, h4 _ rfl⟩
  · have hset : k128.R 128 (wx.setCells gi ((k : Int).toNat * k128.sz + j) [.int .i64 x]) w.heap.size oki (.slice (some ⟨gi, 0, none⟩) r.length ci) (r.set k (put128 q j x)) ∧ wx.grownBy (wx.setCells gi ((k : Int).toNat * k128.sz + j) [.int .i64 x]) (some gi) := by
      refine Kd.R_seg hR (k : Int) (by omega) (by omega) (c := [.int .i64 q.f0, .int .i64 q.f1, .int .i64 q.f2, .int .i64 q.f3]) (seg := [.int .i64 x]) (j := j) (x' := put128 q j x) (okp := fun _ => False) rfl hcc2 (by show j + 1 ≤ 4; omega) ?_ (fun _ hk => hk.elim)
      match j, hj with
      | 0, _ => exact k128_mkM _ _ _ (put128 q 0 x)
      | 1, _ => exact k128_mkM _ _ _ (put128 q 1 x)
      | 2, _ => exact k128_mkM _ _ _ (put128 q 2 x)
      | 3, _ => exact k128_mkM _ _ _ (put128 q 3 x)
    rw [e2] at hset
    have hw : wx.setCells gi (k * 4 + j) [.int .i64 x] = wx.setCell ⟨gi, k * 4 + j, none⟩ (.int .i64 x) := by simp [World.setCells]
    rw [hw] at hset
    obtain ⟨hr', hg⟩ := hset
    have hown : oki gi := hR.1 gi (by simp [Value.ownBlock])
    have hS := hback (x' := r.set k (put128 q j x)) hg (fun k' hk' => by injection hk' with hk'; subst hk'; exact hown) (Kd.M_row (e := 128) hr')
    rw [List.length_set]
    refine ⟨blk_grown h.BQ hg (fun he => blk_ne h.BQ hcells (by decide) (by injection he)), h.GQ, h.HB.setCell (p := ⟨gi, k * 4 + j, none⟩) hg1 _, by simpa using hS, Kd.R_set h.H1 hcells (by decide) _ _, Kd.R_set h.H3 hcells (by decide) _ _⟩
end Go.Proofs.Ythlllcmffgdcmab.Code
end

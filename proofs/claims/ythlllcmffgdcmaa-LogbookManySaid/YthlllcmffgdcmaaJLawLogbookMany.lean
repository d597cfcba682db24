/- However often a book is opened, its log goes on: up to five times up to ten decisions, any size each time, junk behind. For every row of rows of decisions, every row of sizes and every string. -/
import Derived.Test.YthlllcmffgdcmaaRows
import Derived.Test.YthlllcmffgdcmaaM6
import Derived.WalkKit
import Derived.ProofKit
import Derived.OpenShut
import Derived.ShutString
import Derived.ChangeOld
import Derived.Below
import Derived.SizedLaws
import Derived.Carry
import Derived.Lib.SmallJoins
namespace Go.Proofs.Ythlllcmffgdcmaa.logbookMany
open Go.ChangeShapes Go.WideShapes Go.ChangeAt Go.RowKit
open Go.ChangeMaps (open_string shut_string)
open Go.Proofs.Ythlllcmffgdcmaa.PRecordReads Go.Proofs.YthlllcmffgdcmaaW.PrintWords
set_option linter.unusedVariables false
theorem own : ownKnob Try.prog.godebug = none := by kernel_rfl
theorem laidOut : laidOutB Try.prog = true := by kernel_rfl
set_option maxRecDepth 100000 in
theorem lifted (os : Os) (started : os.Started) (H : Type) (enc : TypeId × Value → H) :
    ReturnsInHanded {} Try.checked os 12 .any (Rows.logbookManySpec.pre6 enc Try.prog Try.f12 Rows.logbookManyRow.domain false) (Rows.logbookManySpec.post enc Try.prog Try.f12 false true false false) := by
  refine returnsInHanded_of_change_sized (C := Try.checked) own started (by kernel_rfl) Try.func12
    (ChangeSpec.witness6 (enc := enc) (C := Try.checked) false ⟨#[], #[.slice none 0 0, .slice none 0 0, .string ByteArray.empty], []⟩ 8 (by kernel_rfl) (by kernel_rfl) (by kernel_rfl) (by kernel_rfl)) ?_
  intro W base args ds gs before hval0 hW hcnd hsz0 _
  have hsz : (DataW.weightsEach Try.prog (Try.f12.params.toList ++ Rows.logbookManySpec.plain.varTypes Try.prog) (ds ++ gs)).all (· ≤ reachBytes) = true := hsz0
  have hval : ∀ (j : Nat) t v, Try.f12.params[j]? = some t → args[j]? = some v → Value.okWide Try.prog W .any base t v := hval0
  have hW' := hW
  obtain ⟨p, q, hA0, hV, rfl, hfz, hnd⟩ := hW
  have hA : DataW.TrodAll enc Try.prog W 0 (fun _ => true) true Try.f12.params.toList args.toList ds p := hA0
  rw [Try.params12] at hA hval hsz
  obtain ⟨v0, vs0, d0, ds0, p0, q0, hargs, rfl, rfl, h0, r0⟩ := trodAll_cons hA
  obtain ⟨v1, vs1, d1, ds1, p1, q1, rfl, rfl, rfl, h1, r1⟩ := trodAll_cons r0
  obtain ⟨v2, vs2, d2, ds2, p2, q2, rfl, rfl, rfl, h2, r2⟩ := trodAll_cons r1
  obtain ⟨rfl, rfl, rfl⟩ := trodAll_nil r2
  obtain rfl : args = #[v0, v1, v2] := by cases args; simp_all
  obtain ⟨rfl, rfl⟩ := trodVars_none hV
  have k0 := h0
  have lt0 : ∀ x ∈ p0, x.block < W.heap.size := by obtain ⟨m, hm⟩ := k0; exact DataW.trod_lt m _ _ _ hm
  have k1 := h1
  have lt1 : ∀ x ∈ p1, x.block < W.heap.size := by obtain ⟨m, hm⟩ := k1; exact DataW.trod_lt m _ _ _ hm
  have k2 := h2
  have lt2 : ∀ x ∈ p2, x.block < W.heap.size := by obtain ⟨m, hm⟩ := k2; exact DataW.trod_lt m _ _ _ hm
  obtain ⟨a0, len0, cap0, rfl⟩ := okWide_slice Try.underlying69 (hval 0 69 v0 rfl rfl)
  obtain ⟨a1, len1, cap1, rfl⟩ := okWide_slice Try.underlying65 (hval 1 65 v1 rfl rfl)
  obtain ⟨a2, rfl, rfl, rfl, y2⟩ := open_string Try.underlying9 (hval 2 9 v2 rfl rfl) h2
  have w2 : a2.size ≤ 140737488351232 := by
    have z := sized_string hsz (j := 2) (t := 9) rfl rfl
    rw [Array.length_toList] at z
    exact z
  obtain ⟨hl0, hm0, hn0, hR0⟩ := OpenRows.rows Try.underlying69 Try.underlying22 (by kernel_rfl) (fun _ => rfl) h0
  obtain ⟨ps, hps, hP⟩ := OpenRows.parts_list a0 len0 W (fun i hi => by
    rcases a0 with _ | a
    · have := (hn0 rfl).1; omega
    · obtain ⟨A', len', cap', d', p', hc, ht⟩ := hR0 a rfl i (by omega)
      obtain ⟨hl', hm', hn', F', hF'⟩ := Open.int_structs [.i64, .u64] Try.underlying22 Try.underlying36 (by kernel_rfl) (by kernel_rfl) (fun j k hj => by match j with | 0 => cases hj; exact ⟨_, rfl, by kernel_rfl⟩ | 1 => cases hj; exact ⟨_, rfl, by kernel_rfl⟩ | _ + 2 => simp at hj) (fun _ => rfl) ht
      obtain ⟨l, hll, hlk⟩ := OpenRows.recs_list A' len' cap' W F' hl' hm' hn' hF'
      exact ⟨l, a, A', cap', rfl, by rw [hll]; exact hc, by omega, hlk⟩)
  obtain ⟨hl1, hm1, hn1, F1, hF1⟩ := Open.ints Try.underlying65 Try.underlying3 (by kernel_rfl) (fun _ => rfl) h1
  obtain ⟨zs, hzl, hzs⟩ : ∃ zs : List Int, zs.length = len1 ∧ ReadsInt W .i64 a1 zs.length zs := OpenRows.ints_list a1 len1 cap1 W F1 hl1 hm1 hn1 (fun a ha i hi => (hF1 a ha i hi).1)
  clear hA0 hval0 hsz0 hsz
  refine (hps ▸ hzl ▸ (Book.many_law a0 a1 cap0 cap1 ps zs a2 W hP hzs w2)).mono fun e W' ⟨he, bel⟩ => ?_
  subst he
  exact ⟨_, rfl, _, _, _, [], _, [], hW', trodAll_mk1 (shut_bool Try.underlying4 _), (trodAll_cons_mk (Below.trod laidOut (by kernel_rfl) (of_decide_eq_true (by kernel_rfl)) k0 bel lt0) (trodAll_cons_mk (Below.trod laidOut (by kernel_rfl) (of_decide_eq_true (by kernel_rfl)) k1 bel lt1) (trodAll_cons_mk (Below.trod laidOut (by kernel_rfl) (of_decide_eq_true (by kernel_rfl)) k2 bel lt2) trodAll_mk0))), rfl, bel.frame _, fun h => by cases h⟩
theorem over : Rows.logbookManyRow.holds Try.pinned (OpenSpec.ofChange Rows.logbookManySpec) :=
  OpenClaim.holds_of_wide 12 Try.f12 rfl rfl rfl rfl rfl rfl rfl ⟨rfl, rfl, rfl, rfl, rfl⟩ rfl rfl rfl rfl rfl (by kernel_rfl) Try.func12 (by kernel_rfl)
    (of_decide_eq_true (by kernel_rfl)) (by unfold Func.isWrapper; first | (rw [if_pos (by decide +kernel)]; kernel_rfl) | (rw [if_neg (by decide +kernel)]; exact ⟨rfl, rfl⟩))
    (fun os started H enc _ => lifted os started H enc)
theorem proved : Rows.LogbookManySaid := over
#print axioms proved
end Go.Proofs.Ythlllcmffgdcmaa.logbookMany
namespace Go.Proofs.Ythlllcmffgdcmaa
/-- The row, under a short name, for the claim. -/
theorem logbookMany_holds : Rows.LogbookManySaid := logbookMany.proved
end Go.Proofs.Ythlllcmffgdcmaa

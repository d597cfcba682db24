/- A source of decisions, and behind them numbers, draws as a tape of the decisions as long as there are some, then as an oracle of the numbers. For every row of decisions, every row of numbers and every row of asks. -/
import Derived.Test.YthlllcmffgdcmabRows
import Derived.Test.YthlllcmffgdcmabOpenSrc
import Derived.Test.YthlllcmffgdcmabOpenRecs
import Derived.Test.YthlllcmffgdcmabSrc21
import Derived.WalkKit
import Derived.ProofKit
import Derived.OpenShut
import Derived.ShutString
import Derived.ChangeOld
import Derived.Below
import Derived.SizedLaws
import Derived.Carry
import Derived.Lib.SmallJoins
namespace Go.Proofs.Ythlllcmffgdcmab.sourceChains
open Go.ChangeShapes Go.WideShapes Go.ChangeAt Go.RowKit
open Go.ChangeMaps (open_string shut_string)
open Go.Proofs.YthlllcmffgdcmabW.PrintWords
set_option linter.unusedVariables false
theorem own : ownKnob Try.prog.godebug = none := by kernel_rfl
theorem laidOut : laidOutB Try.prog = true := by kernel_rfl
set_option maxRecDepth 100000 in
theorem lifted (os : Os) (started : os.Started) (H : Type) (enc : TypeId × Value → H) :
    ReturnsInHanded {} Try.checked os 7 .any (Rows.sourceChainsSpec.pre6 enc Try.prog Try.f7 Rows.sourceChainsRow.domain false) (Rows.sourceChainsSpec.post enc Try.prog Try.f7 false true false false) := by
  refine returnsInHanded_of_change_sized (C := Try.checked) own started (by kernel_rfl) Try.func7
    (ChangeSpec.witness6 (enc := enc) (C := Try.checked) false ⟨#[], #[.slice none 0 0, .slice none 0 0, .slice none 0 0], []⟩ 8 (by kernel_rfl) (by kernel_rfl) (by kernel_rfl) (by kernel_rfl)) ?_
  intro W base args ds gs before hval0 hW hcnd hsz0 _
  have hsz : (DataW.weightsEach Try.prog (Try.f7.params.toList ++ Rows.sourceChainsSpec.plain.varTypes Try.prog) (ds ++ gs)).all (· ≤ reachBytes) = true := hsz0
  have hval : ∀ (j : Nat) t v, Try.f7.params[j]? = some t → args[j]? = some v → Value.okWide Try.prog W .any base t v := hval0
  have hW' := hW
  obtain ⟨p, q, hA0, hV, rfl, hfz, hnd⟩ := hW
  have hA : DataW.TrodAll enc Try.prog W 0 (fun _ => true) true Try.f7.params.toList args.toList ds p := hA0
  rw [Try.params7] at hA hval hsz
  obtain ⟨v0, vs0, d0, ds0, p0, q0, hargs, rfl, rfl, h0, r0⟩ := trodAll_cons hA
  obtain ⟨v1, vs1, d1, ds1, p1, q1, rfl, rfl, rfl, h1, r1⟩ := trodAll_cons r0
  obtain ⟨v2, vs2, d2, ds2, p2, q2, rfl, rfl, rfl, h2, r2⟩ := trodAll_cons r1
  obtain ⟨rfl, rfl, rfl⟩ := trodAll_nil r2
  obtain rfl : args = #[v0, v1, v2] := by cases args; simp_all
  obtain ⟨rfl, rfl⟩ := trodVars_none hV
  have k0 := h0
  have lt0 : ∀ x ∈ p0, x.block < W.heap.size := by obtain ⟨m, hm⟩ := k0; exact DataW.trod_lt m _ _ _ hm
  have k1 := h1
  have lt1 : ∀ x ∈ p1, x.block < W.heap.size := by obtain ⟨m, hm⟩ := k1; exact DataW.trod_lt m _ _ _ hm
  have k2 := h2
  have lt2 : ∀ x ∈ p2, x.block < W.heap.size := by obtain ⟨m, hm⟩ := k2; exact DataW.trod_lt m _ _ _ hm
  obtain ⟨a0, len0, cap0, rfl⟩ := okWide_slice Try.underlying47 (hval 0 47 v0 rfl rfl)
  obtain ⟨a1, len1, cap1, rfl⟩ := okWide_slice Try.underlying31 (hval 1 31 v1 rfl rfl)
  obtain ⟨a2, len2, cap2, rfl⟩ := okWide_slice Try.underlying32 (hval 2 32 v2 rfl rfl)
  obtain ⟨hl0, hm0, hn0, F0, hF0⟩ := Open.int_structs [.i64, .u64] Try.underlying47 Try.underlying57 (by kernel_rfl) (by kernel_rfl) (fun j k hj => by match j with | 0 => cases hj; exact ⟨_, rfl, by kernel_rfl⟩ | 1 => cases hj; exact ⟨_, rfl, by kernel_rfl⟩ | _ + 2 => simp at hj) (fun _ => rfl) h0
  obtain ⟨l, hll, hlk⟩ := OpenRecs.recs_list a0 len0 cap0 W F0 hl0 hm0 hn0 hF0
  subst hll
  obtain ⟨hl1, hm1, hn1, F1, hF1⟩ := Open.ints Try.underlying31 Try.underlying23 (by kernel_rfl) (fun _ => rfl) h1
  obtain ⟨xs, hx, hxs, hxp⟩ := Src.u64_list a1 len1 cap1 W F1 hl1 hm1 hn1 hF1
  subst hx
  obtain ⟨hl2, hm2, hn2, F2, hF2⟩ := Open.int_structs [.i64, .i64] Try.underlying32 Try.underlying37 (by kernel_rfl) (by kernel_rfl) (fun j k hj => by match j with | 0 => cases hj; exact ⟨_, rfl, by kernel_rfl⟩ | 1 => cases hj; exact ⟨_, rfl, by kernel_rfl⟩ | _ + 2 => simp at hj) (fun _ => rfl) h2
  obtain ⟨qs, hq, hqs⟩ := Src.asks_list a2 len2 cap2 W F2 hl2 hn2 hF2
  subst hq
  clear hA0 hval0 hsz0 hsz
  refine (Src.chains_law a0 a1 a2 cap0 cap1 cap2 l xs qs W hlk hl0 hxs hl1 hxp hqs).mono fun e W' ⟨he, bel⟩ => ?_
  subst he
  exact ⟨_, rfl, _, _, _, [], _, [], hW', trodAll_mk1 (shut_bool Try.underlying4 _), (trodAll_cons_mk (Below.trod laidOut (by kernel_rfl) (of_decide_eq_true (by kernel_rfl)) k0 bel lt0) (trodAll_cons_mk (Below.trod laidOut (by kernel_rfl) (of_decide_eq_true (by kernel_rfl)) k1 bel lt1) (trodAll_cons_mk (Below.trod laidOut (by kernel_rfl) (of_decide_eq_true (by kernel_rfl)) k2 bel lt2) trodAll_mk0))), rfl, bel.frame _, fun h => by cases h⟩
theorem over : Rows.sourceChainsRow.holds Try.pinned (OpenSpec.ofChange Rows.sourceChainsSpec) :=
  OpenClaim.holds_of_wide 7 Try.f7 rfl rfl rfl rfl rfl rfl rfl ⟨rfl, rfl, rfl, rfl, rfl⟩ rfl rfl rfl rfl rfl (by kernel_rfl) Try.func7 (by kernel_rfl)
    (of_decide_eq_true (by kernel_rfl)) (by unfold Func.isWrapper; first | (rw [if_pos (by decide +kernel)]; kernel_rfl) | (rw [if_neg (by decide +kernel)]; exact ⟨rfl, rfl⟩))
    (fun os started H enc _ => lifted os started H enc)
theorem proved : Rows.SourceChainsSaid := over
#print axioms proved
end Go.Proofs.Ythlllcmffgdcmab.sourceChains
namespace Go.Proofs.Ythlllcmffgdcmab
/-- The row, under a short name, for the claim. -/
theorem sourceChains_holds : Rows.SourceChainsSaid := sourceChains.proved
end Go.Proofs.Ythlllcmffgdcmab

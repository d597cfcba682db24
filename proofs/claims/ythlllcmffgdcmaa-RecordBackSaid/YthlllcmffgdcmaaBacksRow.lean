/- Any 40 decisions, written one behind the other, are read back; their bytes are the document's; whether any one decision may be is told as the document says. For every list of decisions and every one. -/
import Derived.Test.YthlllcmffgdcmaaRows
import Derived.Test.YthlllcmffgdcmaaOpen
import Derived.Test.YthlllcmffgdcmaaPureBacks
import Derived.WalkKit
import Derived.ProofKit
import Derived.OpenShut
import Derived.ShutString
import Derived.ChangeOld
import Derived.Below
import Derived.SizedLaws
import Derived.Carry
import Derived.Lib.SmallJoins
namespace Go.Proofs.Ythlllcmffgdcmaa.recordBack
open Go.ChangeShapes Go.WideShapes Go.ChangeAt Go.RowKit
open Go.ChangeMaps (open_string shut_string)
open Go.Proofs.Ythlllcmffgdcmaa.PRecordReads Go.Proofs.YthlllcmffgdcmaaW.PrintWords
set_option linter.unusedVariables false
theorem own : ownKnob Try.prog.godebug = none := by kernel_rfl
theorem laidOut : laidOutB Try.prog = true := by kernel_rfl
open Go.Proofs.YthlllcmffgdcmaaW.PrintWords in
theorem rows36 (A : Option Addr) (len cap : Nat) (W : World) (F : Nat → Nat → Int) (hl : len ≤ cap) (hm : cap ≤ maxLen) (hn : A = none → len = 0 ∧ cap = 0)
    (hF : ∀ a, A = some a → ∀ i, i < cap → ∀ (j : Nat) k, [IntKind.i64, IntKind.u64][j]? = some k → W.cell? (a.add (i * 2 + j)) = some (.int k (F i j)) ∧ (Lit.int k (F i j)).wf = true) :
    ∃ xs : List S36, xs.length = len ∧ Kd.C k36 W A xs.length xs := by
  refine ⟨(List.range len).map fun i => ⟨F i 0, F i 1⟩, by simp, by simp, by simp; unfold maxLen at hm; omega, fun h0 => ?_⟩
  cases A with
  | none => have := (hn rfl).1; simp at h0; omega
  | some a =>
    refine ⟨a, rfl, fun j p hj => ?_⟩
    simp only [List.getElem?_map] at hj
    have hlt : j < len := by
      rcases Nat.lt_or_ge j len with h | h
      · exact h
      · rw [List.getElem?_eq_none (by simpa using h)] at hj; simp at hj
    rw [List.getElem?_range hlt] at hj
    simp only [Option.map_some, Option.some.injEq] at hj
    subst hj
    refine ⟨[.int .i64 (F j 0), .int .u64 (F j 1)], rfl, k36_mk W ⟨F j 0, F j 1⟩, fun i u hi => ?_⟩
    match i with
    | 0 => simp only [List.getElem?_cons_zero, Option.some.injEq] at hi; subst hi; exact (hF a rfl j (by omega) 0 _ rfl).1
    | 1 => simp only [List.getElem?_cons_succ, List.getElem?_cons_zero, Option.some.injEq] at hi; subst hi; exact (hF a rfl j (by omega) 1 _ rfl).1
    | _ + 2 => simp at hi
set_option maxRecDepth 100000 in
theorem lifted (os : Os) (started : os.Started) (H : Type) (enc : TypeId × Value → H) :
    ReturnsInHanded {} Try.checked os 4 .any (Rows.recordBackSpec.pre6 enc Try.prog Try.f4 Rows.recordBackRow.domain false) (Rows.recordBackSpec.post enc Try.prog Try.f4 false true false false) := by
  refine returnsInHanded_of_change_sized (C := Try.checked) own started (by kernel_rfl) Try.func4
    (ChangeSpec.witness6 (enc := enc) (C := Try.checked) false ⟨#[], #[.slice none 0 0, .agg #[.int .i64 0, .int .u64 0]], []⟩ 8 (by kernel_rfl) (by kernel_rfl) (by kernel_rfl) (by kernel_rfl)) ?_
  intro W base args ds gs before hval0 hW hcnd hsz0 _
  have hsz : (DataW.weightsEach Try.prog (Try.f4.params.toList ++ Rows.recordBackSpec.plain.varTypes Try.prog) (ds ++ gs)).all (· ≤ reachBytes) = true := hsz0
  have hval : ∀ (j : Nat) t v, Try.f4.params[j]? = some t → args[j]? = some v → Value.okWide Try.prog W .any base t v := hval0
  have hW' := hW
  obtain ⟨p, q, hA0, hV, rfl, hfz, hnd⟩ := hW
  have hA : DataW.TrodAll enc Try.prog W 0 (fun _ => true) true Try.f4.params.toList args.toList ds p := hA0
  rw [Try.params4] at hA hval hsz
  obtain ⟨v0, vs0, d0, ds0, p0, q0, hargs, rfl, rfl, h0, r0⟩ := trodAll_cons hA
  obtain ⟨v1, vs1, d1, ds1, p1, q1, rfl, rfl, rfl, h1, r1⟩ := trodAll_cons r0
  obtain ⟨rfl, rfl, rfl⟩ := trodAll_nil r1
  obtain rfl : args = #[v0, v1] := by cases args; simp_all
  obtain ⟨rfl, rfl⟩ := trodVars_none hV
  have k0 := h0
  have lt0 : ∀ x ∈ p0, x.block < W.heap.size := by obtain ⟨m, hm⟩ := k0; exact DataW.trod_lt m _ _ _ hm
  have k1 := h1
  have lt1 : ∀ x ∈ p1, x.block < W.heap.size := by obtain ⟨m, hm⟩ := k1; exact DataW.trod_lt m _ _ _ hm
  obtain ⟨a0, len0, cap0, rfl⟩ := okWide_slice Try.underlying22 (hval 0 22 v0 rfl rfl)
  obtain ⟨hl0, hm0, hn0, F0, hF0⟩ := Open.int_structs [.i64, .u64] Try.underlying22 Try.underlying36 (by kernel_rfl) (by kernel_rfl) (fun j k hj => by match j with | 0 => cases hj; exact ⟨_, rfl, by kernel_rfl⟩ | 1 => cases hj; exact ⟨_, rfl, by kernel_rfl⟩ | _ + 2 => simp at hj) (fun _ => rfl) h0
  obtain ⟨xs, hxl, hxs⟩ : ∃ xs : List S36, xs.length = len0 ∧ Kd.C k36 W a0 xs.length xs := rows36 a0 len0 cap0 W F0 hl0 hm0 hn0 hF0
  obtain ⟨c0, c1, e0, e1, m, rfl, rfl, rfl, g0, g1⟩ := Go.Joins.open_agg2 Try.underlying36 (by kernel_rfl) (by kernel_rfl) (hval 1 36 v1 rfl rfl) h1
  obtain ⟨x, hx, _, _⟩ := DataW.trod_int Try.underlying3 g0
  obtain ⟨y, hy, _, _⟩ := DataW.trod_int Try.underlying29 g1
  simp only [List.cons.injEq, and_true] at hx hy
  subst hx hy
  clear hA0 hval0 hsz0 hsz
  refine (hxl ▸ (Backs.shunterlaw02_RecordBack.calls 600 a0 cap0 xs x y true W hxs (by omega) (PureBacks.backs_any xs x y))).mono fun e W' ⟨he, bel⟩ => ?_
  subst he
  exact ⟨_, rfl, _, _, _, [], _, [], hW', trodAll_mk1 (shut_bool Try.underlying4 _), (trodAll_cons_mk (Below.trod laidOut (by kernel_rfl) (of_decide_eq_true (by kernel_rfl)) k0 bel lt0) (trodAll_cons_mk (Below.trod laidOut (by kernel_rfl) (of_decide_eq_true (by kernel_rfl)) k1 bel lt1) trodAll_mk0)), rfl, bel.frame _, fun h => by cases h⟩
theorem over : Rows.recordBackRow.holds Try.pinned (OpenSpec.ofChange Rows.recordBackSpec) :=
  OpenClaim.holds_of_wide 4 Try.f4 rfl rfl rfl rfl rfl rfl rfl ⟨rfl, rfl, rfl, rfl, rfl⟩ rfl rfl rfl rfl rfl (by kernel_rfl) Try.func4 (by kernel_rfl)
    (of_decide_eq_true (by kernel_rfl)) (by unfold Func.isWrapper; first | (rw [if_pos (by decide +kernel)]; kernel_rfl) | (rw [if_neg (by decide +kernel)]; exact ⟨rfl, rfl⟩))
    (fun os started H enc _ => lifted os started H enc)
theorem proved : Rows.RecordBackSaid := over
#print axioms proved
end Go.Proofs.Ythlllcmffgdcmaa.recordBack
namespace Go.Proofs.Ythlllcmffgdcmaa
/-- The row, under a short name, for the claim. -/
theorem recordBack_holds : Rows.RecordBackSaid := recordBack.proved
end Go.Proofs.Ythlllcmffgdcmaa

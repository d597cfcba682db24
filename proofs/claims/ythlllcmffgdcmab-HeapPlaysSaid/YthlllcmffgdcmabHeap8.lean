import Derived.Test.YthlllcmffgdcmabHeap7
namespace Go.Proofs.Ythlllcmffgdcmab.Heap
open Go.RowKit Go.Proofs.YthlllcmffgdcmabW.PrintWords Go.Proofs.YthlllcmffgdcmabW.PrintLast Go.Proofs.YthlllcmffgdcmabW.PrintMore Go.Proofs.Ythlllcmffgdcmab.HeapPlain
set_option linter.unusedVariables false
set_option linter.unusedSimpArgs false

/-- A row's head, of a heap that may be empty. -/
theorem IsHeap.head {B : Nat} {w : World} {p : Nat} {v : Value} {l : List It} {sq : Int} (h : IsHeap B w p v l sq) : ∃ A c, v = .slice A l.length c := own_slice h.row

set_option maxHeartbeats 4000000 in
set_option maxRecDepth 100000 in
/-- The walk over the items, to where one has the number, or to the end. -/
theorem cancel_calls (B p : Nat) (v : Value) (l : List It) (sq s : Int) (w : World) (h : IsHeap B w p v l sq) (hl : l.length ≤ 1000) (P : Bool → World → Prop)
    (hyes : ∀ i w', i < l.length → (g l i).s = s → (∀ j, j < i → (g l j).s ≠ s) → ∀ v', IsHeap B w' p v' (rm l i) sq → Step B p v v' w w' → P true w')
    (hno : ∀ w', (∀ j, j < l.length → (g l j).s ≠ s) → IsHeap B w' p v l sq → Step B p v v w w' → P false w') : Calls Try.prog 41 #[.pointer (some ⟨p, 0, none⟩), .int .u64 s] w fun e w' =>
    ∃ b, e = .returned (.bool b) ∧ P b w' := by
  have H := Aside0.mk h
  obtain ⟨A, c, rfl⟩ := h.head
  have HY := Aside0.mk hyes
  have HN := Aside0.mk hno
  have HL := Aside0.mk hl
  have k0 : w.cell? ⟨p, 0, none⟩ = some (.slice A l.length c) := (blk_cell h.blk 0).trans rfl
  clear h hyes hno hl
  go_enter Try.func41, Try.ntmps41
  go_wp2
  clear k0
  go_loopw [12] (fun kv wr => ∃ k : Nat, k ≤ l.length ∧ kv = .int .i64 k ∧ (∀ j, j < k → (g l j).s ≠ s) ∧ Below w.heap.size w wr) (fun kv _ => l.length - (intOf kv).toNat)
  case atStart => exact ⟨0, Nat.zero_le _, rfl, fun j hj => by omega, Below.refl _ _⟩
  case round =>
    obtain ⟨k, hk, rfl, hne, hb⟩ := hrel
    have HNE := Aside0.mk hne
    have HB := Aside0.mk hb
    have hl9 := HL.out
    clear hne hb
    by_cases hlt : k < l.length
    · have q1 : decide ((k : Int) < (l.length : Int)) = true := decide_eq_true (by omega)
      obtain ⟨gr, cap, e, _⟩ := H.out.row.form (by omega)
      injection e with e el ec
      subst e
      clear el
      obtain ⟨i0, i1, i2⟩ := (H.out.below HB.out).cells hlt
      have b1 : (0 : Int) ≤ (k : Int) := by omega
      have b2 : (k : Int) < (l.length : Int) := by omega
      obtain ⟨x, hx⟩ : ∃ x, g l k = x := ⟨_, rfl⟩
      rw [hx] at i0 i1 i2
      have HX := Aside0.mk hx
      clear hx
      by_cases hs : x.s = s
      · have q2 : (x.s == s) = true := beq_iff_eq.2 hs
        have HS := Aside0.mk hs
        clear hs
        go_wp2_with (go_at_call 69; (with_reducible refine (remove_calls B p _ l sq k _ (H.out.below (below_alloc HB.out (.cells #[.int .u64 x.t, .int .u64 x.s, .int .i64 x.d] 88))) hlt HL.out).mono ?_); rintro e w3 ⟨rfl, v3, hR3, hS3⟩; have H3 := Aside0.mk hR3; have HS3 := Aside0.mk (((Step.refl B p (.slice (some ⟨gr, 0, none⟩) l.length c) w).of_below (below_alloc HB.out (.cells #[.int .u64 x.t, .int .u64 x.s, .int .i64 x.d] 88)) H.out.bsz).trans hS3 H.out.plt); clear hR3 hS3 i0 i1 i2)
        go_ret
        exact ⟨true, rfl, HY.out k _ hlt (by rw [HX.out]; exact HS.out) HNE.out _ H3.out HS3.out⟩
      · have q2 : (x.s == s) = false := beq_eq_false_iff_ne.2 hs
        have HS := Aside0.mk hs
        clear hs
        go_wp2
        refine ⟨⟨k + 1, hlt, by go_num, fun j hj => ?_, below_alloc HB.out _⟩, by simp [intOf]; omega⟩
        by_cases e : j = k
        · subst e; rw [HX.out]; exact HS.out
        · exact HNE.out j (by omega)
    · have q1 : decide ((k : Int) < (l.length : Int)) = false := decide_eq_false (by omega)
      obtain rfl : k = l.length := by omega
      go_wp2
      go_ret
      exact ⟨false, rfl, HN.out _ HNE.out (H.out.below HB.out) ((Step.refl B p _ w).of_below HB.out H.out.bsz)⟩
end Go.Proofs.Ythlllcmffgdcmab.Heap

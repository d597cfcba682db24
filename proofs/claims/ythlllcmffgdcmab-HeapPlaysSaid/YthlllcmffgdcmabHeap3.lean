import Derived.Test.YthlllcmffgdcmabHeap2
namespace Go.Proofs.Ythlllcmffgdcmab.Heap
open Go.RowKit Go.Proofs.YthlllcmffgdcmabW.PrintWords Go.Proofs.YthlllcmffgdcmabW.PrintLast Go.Proofs.YthlllcmffgdcmabW.PrintMore Go.Proofs.Ythlllcmffgdcmab.HeapPlain
set_option linter.unusedVariables false
set_option linter.unusedSimpArgs false

theorem IsHeap.plt {B : Nat} {w : World} {p : Nat} {v : Value} {l : List It} {sq : Int} (h : IsHeap B w p v l sq) : p < w.heap.size := blk_lt h.blk
theorem IsHeap.bsz {B : Nat} {w : World} {p : Nat} {v : Value} {l : List It} {sq : Int} (h : IsHeap B w p v l sq) : B ≤ w.heap.size := Nat.le_of_lt (Nat.lt_of_le_of_lt h.ge h.plt)

set_option maxHeartbeats 4000000 in
set_option maxRecDepth 100000 in
theorem down_calls (B p : Nat) (v : Value) (l : List It) (sq : Int) (i : Nat) (w : World) (h : IsHeap B w p v l sq) (hi : i < l.length) (hl : l.length ≤ 1000) : Calls Try.prog 88 #[.pointer (some ⟨p, 0, none⟩), .int .i64 i] w fun e w' =>
    e = .returned (.tuple #[]) ∧ IsHeap B w' p v (down l i) sq ∧ (down l i).length = l.length ∧ Step B p v v w w' := by
  have H := Aside0.mk h
  have HI := Aside0.mk (And.intro hi hl)
  clear h hi hl
  go_enter Try.func88, Try.ntmps88
  go_wp2_with (go_at_call 91; (with_reducible refine (least_calls B p v l sq i w H.out HI.out.1 HI.out.2).mono ?_); rintro e w1 ⟨rfl, hb⟩; have HB := Aside0.mk hb; clear hb)
  go_loopw [1, 4] (fun iv kv wr => ∃ (i' : Nat) (l' : List It), iv = .int .i64 i' ∧ kv = .int .i64 (least l' i') ∧ i' < l'.length ∧ l'.length = l.length ∧ down l' i' = down l i ∧ IsHeap B wr p v l' sq ∧ Step B p v v w wr) (fun iv _ _ => l.length - (intOf iv).toNat)
  case atStart => exact ⟨i, l, rfl, rfl, HI.out.1, rfl, rfl, H.out.below HB.out, (Step.refl B p v w).of_below HB.out H.out.bsz⟩
  case round =>
    obtain ⟨i', l', rfl, rfl, hi', hl', hd, hR, hS⟩ := hrel
    have HD := Aside0.mk (And.intro hl' hd)
    have HR := Aside0.mk hR
    have HS := Aside0.mk hS
    have HI' := Aside0.mk hi'
    have hml := least_lt l' i' hi'
    have hor := least_or l' i'
    clear hl' hd hR hS hi' HB
    by_cases hc : least l' i' = i'
    · have q1 : ((least l' i' : Int) != (i' : Int)) = false := by rw [bne_eq_false_iff_eq]; omega
      have HF := Aside0.mk (down_stop hc)
      clear hc hor
      go_wp2
      have e1 : down l i = l' := HD.out.2.symm.trans HF.out
      exact bodyPost_end (results_none rfl _ _ _) rfl ⟨rfl, by rw [e1]; exact HR.out, by rw [e1]; exact HD.out.1, HS.out⟩
    · have q1 : ((least l' i' : Int) != (i' : Int)) = true := by rw [bne_iff_ne]; omega
      have HF := Aside0.mk (down_go hc)
      have hgt : i' < least l' i' := by rcases hor with h | h; exact absurd h hc; exact h.2.1
      clear hc hor
      generalize least l' i' = m at q1 hml hgt HF ⊢
      have HM := Aside0.mk (And.intro hml hgt)
      clear hml hgt
      go_wp2_with (first
        | (go_at_call 87; (with_reducible refine (swap_calls B p v l' sq i' m wr HR.out HI'.out HM.out.1 (by rw [HD.out.1]; exact HI.out.2)).mono ?_); rintro e w2 ⟨rfl, hR2, hS2⟩; have HR2 := Aside0.mk hR2; have HS2 := Aside0.mk (HS.out.trans hS2 H.out.plt); clear hR2 hS2)
        | (go_at_call 91; (with_reducible refine (least_calls B p v (swp l' i' m) sq m _ HR2.out (by rw [swp_len]; exact HM.out.1) (by rw [swp_len, HD.out.1]; exact HI.out.2)).mono ?_); rintro e w3 ⟨rfl, hb3⟩; have HB3 := Aside0.mk hb3; clear hb3))
      exact ⟨⟨m, swp l' i' m, rfl, rfl, by rw [swp_len]; exact HM.out.1, by rw [swp_len]; exact HD.out.1, HF.out.symm.trans HD.out.2, HR2.out.below HB3.out, HS2.out.of_below HB3.out HR2.out.bsz⟩, by have h1 := HM.out; have h2 := HD.out.1; simp [intOf]; omega⟩
end Go.Proofs.Ythlllcmffgdcmab.Heap

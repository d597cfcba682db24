/- SegmentScans: the scan under the law's closure. -/
import Derived.Test.YthlllcmffgdcmaaScans1
import Derived.Test.YthlllcmffgdcmaaScans2
namespace Go.Proofs.Ythlllcmffgdcmaa.Scans
open Go.RowKit Go.Proofs.Ythlllcmffgdcmaa.QSegmentOpens Go.Proofs.YthlllcmffgdcmaaW.PrintWords Go.Proofs.YthlllcmffgdcmaaW.PrintLast Go.Proofs.YthlllcmffgdcmaaW.PrintMore Go.Proofs.Ythlllcmffgdcmaa.LebPlain Go.Proofs.Ythlllcmffgdcmaa.LebWords Go.Proofs.Ythlllcmffgdcmaa.SegPlain Go.Proofs.Ythlllcmffgdcmaa.SegLinkQSegmentOpens Go.Proofs.Ythlllcmffgdcmaa.Spoilt Go.Proofs.Ythlllcmffgdcmaa.Scan Go.Proofs.Ythlllcmffgdcmaa.RefOpen
set_option linter.unusedVariables false
set_option linter.unusedSimpArgs false

theorem St.below {w0 : World} {B g st en : Nat} {stop : Int} {vg ve vg0 ve0 : Value} {xs : List ByteArray} {es : List Int} {W W' : World} (h : St w0 B g st en stop vg ve xs es vg0 ve0 W) (hb : Below W.heap.size W W') : St w0 B g st en stop vg ve xs es vg0 ve0 W' :=
  ⟨blk_below h.cg hb, blk_below h.cs hb, blk_below h.ce hb, pw_own_below h.og hb, pw_own_below h.oe hb, h.lt, h.bg, h.be, Nat.le_trans h.bw hb.size, below_then h.bl h.bw hb⟩

/-- Where the first segments begin, and where the last of them ends. -/
def stps (s : ByteArray) (i : Nat) : List Int := (List.range (i + 1)).map fun j => (stp s j : Int)
theorem stps_len (s : ByteArray) (i : Nat) : (stps s i).length = i + 1 := by simp [stps]
theorem stps_succ (s : ByteArray) (i : Nat) : stps s (i + 1) = stps s i ++ [(stp s (i + 1) : Int)] := by
  unfold stps; rw [List.range_succ, List.map_append]; rfl
theorem stps_last (s : ByteArray) (i : Nat) : rd (stps s i) (i : Int) = (stp s i : Int) := by
  have h1 : i < (stps s i).length := by rw [stps_len]; omega
  unfold rd
  rw [Int.toNat_natCast, List.getD_eq_getElem?_getD, List.getElem?_eq_getElem h1]
  simp [stps]

/-- What has been seen. -/
def Seen (w0 : World) (B g st en : Nat) (stop : Int) (s : ByteArray) (i : Nat) (W : World) : Prop := ∃ vg ve, St w0 B g st en stop vg ve (bdys s i) (stps s i) vg ve W

/-- How many are seen. -/
def howMany (n : Nat) (stop : Int) : Nat := if 0 ≤ stop ∧ stop ≤ (n : Int) then stop.toNat else n
theorem howMany_le (n : Nat) (stop : Int) : howMany n stop ≤ n := by unfold howMany; split <;> omega

theorem scan36 (w0 W : World) (B g st en : Nat) (stop : Int) (s : ByteArray) (seq n : Nat) (hs : s.size ≤ 1000) (hseq : seq < 18446744073709551616) (hn : n ≤ s.size) (hok : ∀ i, i < n → okAt s seq i) (hno : ¬ okAt s seq n) (h0 : Seen w0 B g st en stop s 0 W) :
    Calls Try.prog 35 #[.string s, .int .u64 (seq : Int), .func (.func 36) #[] #[.pointer (some ⟨g, 0, none⟩), .pointer (some ⟨st, 0, none⟩), .pointer (some ⟨en, 0, none⟩)]] W
      fun e W' => e = .returned (.int .i64 (stp s (howMany n stop) : Int)) ∧ Seen w0 B g st en stop s (howMany n stop) W' := by
  have hle := howMany_le n stop
  refine scan_calls s (by omega) seq (howMany n stop) hseq (stp s) (bdy s) rfl (fun i hi => (okAt_step s seq i (hok i (by omega))).2.2) (fun i hi => ⟨(okAt_step s seq i (hok i (by omega))).1, (okAt_step s seq i (hok i (by omega))).2.1⟩) 36 _ (fun _ _ => by kernel_rfl) (Seen w0 B g st en stop s) _ (fun i W W' h hb => ?_) (fun i hi W h => ?_) ?_ W h0
  · obtain ⟨vg, ve, h⟩ := h
    exact ⟨vg, ve, h.below hb⟩
  · obtain ⟨vg, ve, h⟩ := h
    refine (see36 w0 B g st en stop vg ve _ _ _ _ W h ?_ (by rw [bdys_len]; omega) (by rw [stps_len]; omega)).mono ?_
    · rw [bdys_len]
      unfold howMany at hi
      split at hi <;> omega
    · rintro e W' ⟨rfl, vg', ve', h'⟩
      refine ⟨rfl, vg', ve', ?_⟩
      rw [bdys_succ, stps_succ]
      exact h'
  · by_cases hm : howMany n stop = n
    · rw [hm]
      refine Or.inl ⟨?_, fun W h => h⟩
      by_cases h1 : (openR s (stp s n : Int)).2.2.2 = 0
      · exact Or.inr fun h2 => hno ⟨h1, h2⟩
      · exact Or.inl h1
    · have hlt : howMany n stop < n := by omega
      have hst : (howMany n stop : Int) = stop := by
        unfold howMany at hm ⊢
        split
        · omega
        · rename_i hh; rw [if_neg hh] at hm; exact absurd rfl hm
      refine Or.inr ⟨hok _ hlt, fun W h => ?_⟩
      have H := h
      obtain ⟨vg, ve, h⟩ := h
      refine (see36_stop w0 B g st en stop vg ve _ _ _ _ W h (by rw [bdys_len]; exact hst) (by rw [bdys_len]; omega)).mono ?_
      rintro e W' ⟨rfl, rfl⟩
      exact ⟨rfl, H⟩
end Go.Proofs.Ythlllcmffgdcmaa.Scans

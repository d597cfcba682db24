import Derived.Test.YthlllcmffgdcmaaScan0
import Derived.Test.YthlllcmffgdcmaaTorn0
namespace Go.Proofs.Ythlllcmffgdcmaa.Torn
open Go.RowKit Go.Proofs.Ythlllcmffgdcmaa.QSegmentOpens Go.Proofs.YthlllcmffgdcmaaW.PrintWords Go.Proofs.YthlllcmffgdcmaaW.PrintLast Go.Proofs.YthlllcmffgdcmaaW.PrintMore Go.Proofs.Ythlllcmffgdcmaa.LebPlain Go.Proofs.Ythlllcmffgdcmaa.LebWords Go.Proofs.Ythlllcmffgdcmaa.RecPlain Go.Proofs.Ythlllcmffgdcmaa.CrcPlain Go.Proofs.Ythlllcmffgdcmaa.SegPlain Go.Proofs.Ythlllcmffgdcmaa.SegLinkQSegmentOpens Go.Proofs.Ythlllcmffgdcmaa.Pure Go.Proofs.Ythlllcmffgdcmaa.Spoilt Go.Proofs.Ythlllcmffgdcmaa.Scan
set_option linter.unusedVariables false
set_option linter.unusedSimpArgs false

theorem info3 : (Try.prog.info? 3).map (fun i => (i.zero, i.size, i.bytes)) = some (some (.int .i64 0), 1, 8) := by kernel_rfl

set_option maxHeartbeats 4000000 in
set_option maxRecDepth 100000 in
theorem see_calls (xs : List ByteArray) (es : List Int) (gf gn g2 g6 cap cap' i : Nat) (A A' : Option Addr) (body : ByteArray) (en : Int) (W : World)
    (hf : W.heap[gf]? = some (.cells #[.bool true] 4 (0, 0))) (hn : W.heap[gn]? = some (.cells #[.int .i64 (i : Int)] 3 (0, 0)))
    (hb : W.heap[g2]? = some (.cells #[.slice A xs.length cap] 62 (0, 0))) (he : W.heap[g6]? = some (.cells #[.slice A' es.length cap'] 65 (0, 0)))
    (hx : ReadsOf Value.string ByteArray.empty W A xs.length xs) (hes : ReadsInt W .i64 A' es.length es) (hi : i < xs.length) (hi2 : i + 1 < es.length) (h8 : i < 8)
    (hbody : body = bodyAt xs i) (hen : en = rd es ((i : Int) + 1)) :
    Calls Try.prog 37 #[.string body, .int .i64 en, .pointer (some ⟨gf, 0, none⟩), .pointer (some ⟨gn, 0, none⟩), .pointer (some ⟨g2, 0, none⟩), .pointer (some ⟨g6, 0, none⟩)] W fun e W' =>
      e = .returned (.bool true) ∧ W' = (W.setCell ⟨gf, 0, none⟩ (.bool true)).setCell ⟨gn, 0, none⟩ (.int .i64 ((i : Int) + 1)) := by
  obtain ⟨ad0, e0, k0⟩ := hx.at_ (i : Int) (by omega) (by omega)
  obtain ⟨ad1, e1, k1⟩ := hes.at_ ((i : Int) + 1) (by omega) (by omega)
  subst e0 e1
  have hbody' : cutS (rdOf ByteArray.empty xs (i : Int)) 60 = body := by rw [hbody]; rfl
  rw [← hen] at k1
  have HB := Aside0.mk hbody'
  generalize rdOf ByteArray.empty xs (i : Int) = s at k0 HB
  rw [Int.toNat_natCast] at k0
  rw [show ((i : Int) + 1).toNat = i + 1 by omega] at k1
  have k1' : W.cell? ⟨ad1.block, ad1.off + (i + 1), none⟩ = some (.int .i64 en) := k1
  have c0 : W.cell? ⟨gf, 0, none⟩ = some (.bool true) := (blk_cell hf 0).trans rfl
  have c1 : W.cell? ⟨gn, 0, none⟩ = some (.int .i64 (i : Int)) := (blk_cell hn 0).trans rfl
  have c2 : W.cell? ⟨g2, 0, none⟩ = some (.slice (some ad0) xs.length cap) := (blk_cell hb 0).trans rfl
  have c3 : W.cell? ⟨g6, 0, none⟩ = some (.slice (some ad1) es.length cap') := (blk_cell he 0).trans rfl
  have f0 := blk_frozen hf 0
  have f1 := blk_frozen hn 0
  have hne : gn ≠ gf := by intro h; rw [h, hf] at hn; cases hn
  have hne' : (⟨gn, 0, none⟩ : Addr) ≠ ⟨gf, 0, none⟩ := by intro h; injection h with h; exact hne h
  have c1' : (W.setCell ⟨gf, 0, none⟩ (.bool true)).cell? ⟨gn, 0, none⟩ = some (.int .i64 (i : Int)) := by
    rw [World.cell?_setCell_other _ _ _ _ (Ne.symm hne'), c1]
  have f1' : (W.setCell ⟨gf, 0, none⟩ (.bool true)).frozen? ⟨gn, 0, none⟩ = false := by rw [World.frozen?_setCell]; exact f1
  have b1 : (body.toList == body.toList) = true := beq_self_eq_true _
  clear hf hn hb he hx hes hbody hbody' hen hne hne'
  go_enter Try.func37, Try.ntmps37
  go_wp2_with (go_at_call 25; (with_reducible refine (cut_calls _ 60 60 rfl _).mono ?_); rintro e w3 ⟨rfl, rfl⟩; rw [HB.out])
  go_ret
  exact ⟨rfl, rfl⟩
end Go.Proofs.Ythlllcmffgdcmaa.Torn

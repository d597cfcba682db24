/- A sum in the making: the contract of '(crc.State).Add'. -/
import Derived.Test.YthlllcmffgdcmaaCrcT
namespace Go.Proofs.Ythlllcmffgdcmaa.Crc
open Go.RowKit Go.Proofs.YthlllcmffgdcmaaW.PrintWords Go.Proofs.YthlllcmffgdcmaaW.PrintLast Go.Proofs.YthlllcmffgdcmaaW.PrintMore
set_option linter.unusedVariables false
set_option linter.unusedSimpArgs false

/-- One byte's step. -/
def stepB (y b : Int) : Int := Go.bits .xor .u32 (y / 256) (tabI (Go.bits .xor .u8 (y % 256) b).toNat)
/-- So many bytes' steps. -/
def addTo (s : ByteArray) (y : Int) : Nat → Int
  | 0 => y
  | n + 1 => stepB (addTo s y n) (bt s (n : Int))
/-- The sum behind a text, as the code has it. -/
def crc_State_Add.f (a0_0 : Int) (a1 : ByteArray) : Option Int :=
  if a1.size ≤ 140737488351232 then some (Go.bits .xor .u32 IntKind.u32.max (addTo a1 (Go.bits .xor .u32 IntKind.u32.max a0_0) a1.size)) else none

theorem xor_u8_range (x y : Int) : 0 ≤ Go.bits .xor .u8 x y ∧ Go.bits .xor .u8 x y < 256 := by
  have e : Go.bits .xor .u8 x y = IntKind.u8.wrap ((BitVec.ofInt 8 x ^^^ BitVec.ofInt 8 y).toNat : Int) := rfl
  rw [e, IntKind.wrap_u8]
  omega

theorem bytes_event {P : Program} {ops : Array Oper} {rest : List Oper} {o : Oper} {a : Act} {Q : Exit → Act → World → Prop} {W : World} (hgd : o.guard = none) {N : Tmp} (_hd : o.dst = some N) {x : Operand} (src dst e : TypeId) {u : TypeDesc}
    (ho : o.op = .convert src dst x) (hs : P.underlying src = some u) (hd : P.underlying dst = some (.slice e)) (he : P.underlying e = some (.int .u8)) (s : ByteArray) (hx : a.eval x = .string s) (hm : s.size ≤ 9223372036854775807)
    (h : ∀ g c w1, ReadsInt w1 .u8 (some ⟨g, 0, none⟩) s.size (bytesOf s) → Below W.heap.size W w1 → wpList P ops Q rest (a.put o.dst (.slice (some ⟨g, 0, none⟩) s.size c)) w1) : wpList P ops Q (o :: rest) a W := by
  refine Kd.event_run hgd (v := .slice (some ⟨W.heap.size, 0, none⟩) s.size (grownCap W s.size 0 e)) (w1 := Lib.bytesWorld W e s) ?_ (h _ _ _ (bytes_reads W e s hm) (bytes_below (Below.refl _ _) (Nat.le_refl _) e s))
  unfold execOp
  simp only [ho, hx, Sem.run_bind, print_bytes src dst e hs hd he s W, Result.andThen_ok, Sem.run_pure]

set_option maxHeartbeats 4000000 in
set_option maxRecDepth 100000 in
theorem crc_State_Add.calls (a0_0 : Int) (a1 : ByteArray) (r : Int) (w : World) (h : crc_State_Add.f a0_0 a1 = some r) :
    Calls Try.prog 64 #[.agg #[.int .u32 a0_0], .string a1] w fun e w' => e = .returned (.agg #[.int .u32 r]) ∧ Below w.heap.size w w' := by
  unfold crc_State_Add.f at h
  by_cases hm : a1.size ≤ 140737488351232
  case neg => rw [if_neg hm] at h; cases h
  rw [if_pos hm] at h
  have hr := Aside0.mk (Option.some.inj h)
  clear h
  have HSZ := Aside0.mk (And.intro (cellsTo_one 256) (And.intro (show (Try.prog.info? 105).map (·.size) = some (cellsTo 256).size by rw [cellsTo_size]; kernel_rfl) (show zero256.size = (cellsTo 256).size by rw [cellsTo_size]; rfl)))
  have HB := Aside0.mk (Below.refl w.heap.size w)
  go_enter Try.func64, Try.ntmps64
  go_wp2_with (first
    | ((with_reducible refine gate_dst (N := 2) rfl ?_); refine box_event ?hg (N := 2) ?hd (cs := #[.int .u32 a0_0]) (t := 102) ?hr ?_; (case hd => rfl); (case hg => rfl); (case hr => first | (go_simp; done) | (go_simp; rfl)); intro g2 hg2 w2 hb2 hB2; have G2 := Aside0.mk (show w.heap.size ≤ g2 by omega); have H2 := Aside0.mk hb2; replace HB := Aside0.mk hB2; clear hg2 hb2 hB2)
    | ((with_reducible refine gate_dst (N := 4) rfl ?_); refine box_event ?hg (N := 4) ?hd (cs := #[.int .u32 0]) (t := 102) ?hr ?_; (case hd => rfl); (case hg => rfl); (case hr => first | (go_simp; done) | (go_simp; rfl)); intro g4 hg4 w4 hb4 hB4; have G4 := Aside0.mk (show w.heap.size ≤ g4 by have := HB.out.size; omega); have N4 := Aside0.mk (show g4 ≠ g2 by have := blk_lt H2.out; omega); have H4 := Aside0.mk hb4; replace H2 := Aside0.mk (blk_below H2.out hB4); replace HB := Aside0.mk (below_step HB.out hB4); clear hg4 hb4 hB4)
    | ((with_reducible refine gate_callee (f := 66) rfl ?_); refine goesL_ (some 9) rfl rfl Try.func66 (by kernel_rfl) rfl #[] rfl (by (try simp only [List.map_toArray, List.map_nil]); first | done | rfl) ?_; refine (table_calls _).mono ?_; rintro e w9 ⟨rfl, hB9⟩; refine ⟨_, rfl, ?_⟩; replace H2 := Aside0.mk (blk_below H2.out hB9); replace H4 := Aside0.mk (blk_below H4.out hB9); replace HB := Aside0.mk (below_step HB.out hB9); clear hB9)
    | ((with_reducible refine gate_dst (N := 5) rfl ?_); refine box_event ?hg (N := 5) ?hd (cs := zero256) (t := 105) ?hr ?_; (case hd => rfl); (case hg => rfl); (case hr => exact allocArr _ _ _ _ _ _ _); intro g5 hg5 w5 hb5 hB5; have G5 := Aside0.mk (show w.heap.size ≤ g5 by have := HB.out.size; omega); have N52 := Aside0.mk (show g5 ≠ g2 by have := blk_lt H2.out; omega); have N54 := Aside0.mk (show g5 ≠ g4 by have := blk_lt H4.out; omega); have H5 := Aside0.mk hb5; replace H2 := Aside0.mk (blk_below H2.out hB5); replace H4 := Aside0.mk (blk_below H4.out hB5); replace HB := Aside0.mk (below_step HB.out hB5); clear hg5 hb5 hB5)
    | (refine wpList_store_row rfl 105 _ _ rfl g5 (cellsTo 256) rfl rfl 105 zero256 H5.out HSZ.out.2.1 HSZ.out.2.2 HSZ.out.1 ?_; replace H2 := Aside0.mk ((setRow_other _ g5 g2 (cellsTo 256) N52.out.symm).trans H2.out); replace H4 := Aside0.mk ((setRow_other _ g5 g4 (cellsTo 256) N54.out.symm).trans H4.out); replace HB := Aside0.mk (below_setRow HB.out G5.out (cellsTo 256)); replace H5 := Aside0.mk (setRow_heap _ g5 zero256 (cellsTo 256) 105 (0, 0) H5.out); generalize w5.setRow g5 (cellsTo 256) = w6 at H2 H4 H5 HB ⊢; have c2 := (blk_cell H2.out 0).trans rfl)
    | ((with_reducible refine gate_dst (N := 14) rfl ?_); refine bytes_event rfl (N := 14) rfl 9 59 5 rfl Try.underlying9 Try.underlying59 Try.underlying5 a1 rfl (by omega) ?_; intro g14 c14 w14 hR14 hB14; have HR14 := Aside0.mk hR14; replace H4 := Aside0.mk (blk_below H4.out hB14); replace H5 := Aside0.mk (blk_below H5.out hB14); replace HB := Aside0.mk (below_step HB.out hB14); clear c2 H2 hR14 hB14))
  clear HSZ
  generalize Go.bits .xor .u32 IntKind.u32.max a0_0 = y0 at hr ⊢
  go_loop [6, 16] (fun y k => ∃ i : Nat, i ≤ a1.size ∧ k = .int .i64 i ∧ y = .int .u32 (addTo a1 y0 i)) (fun _ k => a1.size - (intOf k).toNat)
  case atStart => exact ⟨0, by omega, rfl, rfl⟩
  case round =>
    obtain ⟨i, hi, rfl, rfl⟩ := hrel
    by_cases hlt : i < a1.size
    · have hs := Aside0.mk (show addTo a1 y0 (i + 1) = stepB (addTo a1 y0 i) (bt a1 (i : Int)) from rfl)
      obtain ⟨ad, e14, hc14⟩ := HR14.out.at_ (i : Int) (by omega) (by omega)
      cases e14
      rw [rd_bytesOf, add_plain, Int.toNat_natCast] at hc14
      generalize addTo a1 y0 i = y at hs ⊢
      generalize bt a1 (i : Int) = b at hs hc14
      have hq := xor_u8_range (y % 256) b
      have hq0 := hq.1
      have hq1 := hq.2
      have hcq := (blk_cell H5.out (Go.bits .xor .u8 (y % 256) b).toNat).trans (show (cellsTo 256)[(Go.bits .xor .u8 (y % 256) b).toNat]? = some (.int .u32 (tabI (Go.bits .xor .u8 (y % 256) b).toNat)) by rw [cellsTo_get, if_pos (by omega), if_pos (by omega)])
      clear hq
      go_wp2
      go_round
      case rel => exact ⟨i + 1, by omega, by go_num, by rw [hs.out]; rfl⟩
      case measure => simp [intOf]; omega
    · obtain rfl : i = a1.size := by omega
      clear hi hlt
      have c4 := (blk_cell H4.out 0).trans rfl
      have f4 := blk_frozen H4.out 0
      go_wp2
      refine bodyPost_ret (v := .agg #[.int .u32 (Go.bits .xor .u32 IntKind.u32.max (addTo a1 y0 a1.size))]) (results_cell_row (P := Try.prog) rfl _ _ g4 102 #[.int .u32 (Go.bits .xor .u32 IntKind.u32.max (addTo a1 y0 a1.size))] (0, 0) _ rfl (blk_set H4.out 0 _) Try.underlying102 rfl (by kernel_rfl)) rfl ⟨by rw [hr.out], HB.out.setCell G4.out _⟩
end Go.Proofs.Ythlllcmffgdcmaa.Crc

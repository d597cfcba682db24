/- The code's table of the sums: what a byte adds, made by 256 times 8 steps. -/
import Derived.Test.YthlllcmffgdcmaaPRecordReadsx0
import Derived.Laws.BitsAllLaws
import Derived.Laws.Tables
import Derived.Laws.Rows
namespace Go.Proofs.Ythlllcmffgdcmaa.Crc
open Go.RowKit Go.Proofs.YthlllcmffgdcmaaW.PrintWords Go.Proofs.YthlllcmffgdcmaaW.PrintLast Go.Proofs.YthlllcmffgdcmaaW.PrintMore
set_option linter.unusedVariables false
set_option linter.unusedSimpArgs false

/-- One bit's step. -/
def stepI (x : Int) : Int := if Go.bits .and .u32 x 1 = 1 then Go.bits .xor .u32 (x / 2) 3988292384 else x / 2
/-- So many steps. -/
def stepsI : Nat → Int → Int
  | 0, x => x
  | n + 1, x => stepI (stepsI n x)
/-- What a byte adds. -/
def tabI (i : Nat) : Int := stepsI 8 (i : Int)
def zero256 : Array Value := Array.replicate 256 (.int .u32 0)
/-- The table, as far as it is made. -/
def cellsTo (i : Nat) : Array Value := ((List.range 256).map fun j => Value.int .u32 (if j < i then tabI j else 0)).toArray

theorem cellsTo_size (i : Nat) : (cellsTo i).size = 256 := by simp [cellsTo]
theorem cellsTo_get (i j : Nat) : (cellsTo i)[j]? = if j < 256 then some (Value.int .u32 (if j < i then tabI j else 0)) else none := by
  unfold cellsTo
  rw [List.getElem?_toArray, List.getElem?_map]
  by_cases h : j < 256
  · rw [if_pos h, List.getElem?_range h]; rfl
  · rw [if_neg h, List.getElem?_eq_none (by simpa using h)]; rfl
theorem cellsTo_zero : cellsTo 0 = zero256 := by
  apply Array.ext_getElem?
  intro j
  rw [cellsTo_get]
  unfold zero256
  rw [Array.getElem?_replicate]
  simp
theorem cellsTo_next (i : Nat) (h : i < 256) : (cellsTo i).setIfInBounds i (.int .u32 (tabI i)) = cellsTo (i + 1) := by
  apply Array.ext_getElem?
  intro j
  rw [Array.getElem?_setIfInBounds, cellsTo_get, cellsTo_get, cellsTo_size]
  by_cases hj : i = j
  · subst hj
    rw [if_pos rfl, if_pos h, if_pos h, if_pos (by omega)]
  · rw [if_neg hj]
    have : (j < i) = (j < i + 1) := by apply propext; omega
    simp only [this]

theorem cellsTo_one (i : Nat) : (cellsTo i).all (·.oneCell') = true := by
  rw [Array.all_eq_true_iff_forall_mem]
  intro v hv
  unfold cellsTo at hv
  rw [List.mem_toArray, List.mem_map] at hv
  obtain ⟨j, _, rfl⟩ := hv
  rfl
theorem below_setRow {B : Nat} {a w : World} (h : Below B a w) {g : Nat} (hg : B ≤ g) (cs : Array Value) : Below B a (w.setRow g cs) :=
  h.trans ⟨rfl, rfl, rfl, by simp, fun k hk => setRow_other w g k cs (by omega)⟩

theorem allocArr (ev : Operand → Value) (d : Option Tmp) (t : TypeId) (p : String) (af : Array Edge) (g : Option (Nat × Bool)) (W : World) :
    (execOp ev { dst := d, op := .alloc 105, type := t, pos := p, after := af, guard := g }).run Try.prog W = .ok (.value (.pointer (some ⟨W.heap.size, 0, none⟩))) (W.alloc (.cells zero256 105 (0, 0))) := by kernel_rfl

set_option maxHeartbeats 4000000 in
set_option maxRecDepth 100000 in
theorem table_calls (w : World) : Calls Try.prog 66 #[] w fun e w' => e = .returned (.agg (cellsTo 256)) ∧ Below w.heap.size w w' := by
  go_enter Try.func66, Try.ntmps66
  go_wp2_with (first | ((with_reducible refine gate_dst (N := 0) rfl ?_); refine box_event ?hg (N := 0) ?hd (cs := zero256) (t := 105) ?hr ?_; (case hd => rfl); (case hg => rfl); (case hr => exact allocArr _ _ _ _ _ _ _); intro g0 hg0 w0 hb0 hB0; have G0 := Aside0.mk hg0; clear hg0) | ((with_reducible refine gate_dst (N := 1) rfl ?_); refine box_event ?hg (N := 1) ?hd (cs := zero256) (t := 105) ?hr ?_; (case hd => rfl); (case hg => rfl); (case hr => exact allocArr _ _ _ _ _ _ _); intro g1 hg1 w1 hb1 hB1; have G1 := Aside0.mk hg1; clear hg1))
  have HB := Aside0.mk (hB0.trans (hB1.mono hB0.size))
  have H0 := Aside0.mk (blk_below hb0 hB1)
  have H1 := Aside0.mk (show w1.heap[g1]? = some (.cells (cellsTo 0) 105 (0, 0)) by rw [cellsTo_zero]; exact hb1)
  have GN := Aside0.mk (show g1 ≠ g0 by rintro rfl; have := blk_lt hb0; have := G1.out; omega)
  replace G1 := Aside0.mk (show w.heap.size ≤ g1 by have := hB0.size; have := G1.out; omega)
  replace G0 := Aside0.mk (show w.heap.size ≤ g0 by have := G0.out; omega)
  clear hb0 hb1 hB0 hB1
  go_loopw [4] (fun v4 w' => ∃ i : Nat, i ≤ 256 ∧ v4 = .int .i64 i ∧ Aside0 (w'.heap[g0]? = some (.cells zero256 105 (0, 0))) ∧ Aside0 (w'.heap[g1]? = some (.cells (cellsTo i) 105 (0, 0))) ∧ Aside0 (Below w.heap.size w w')) (fun v4 _ => 256 - (intOf v4).toNat)
  case atStart => exact ⟨0, by omega, rfl, H0, H1, HB⟩
  case round =>
    clear H0 H1 HB
    obtain ⟨i, hi, rfl, H0, H1, HB⟩ := hrel
    by_cases hlt : i < 256
    · go_wp2
      go_loop [3, 9] (fun x k => ∃ j : Nat, j ≤ 8 ∧ k = .int .i64 j ∧ x = .int .u32 (stepsI j (i : Int))) (fun _ k => 8 - (intOf k).toNat)
      case atStart => exact ⟨0, by omega, rfl, rfl⟩
      case round =>
        obtain ⟨j, hj, rfl, rfl⟩ := hrel
        by_cases hj8 : j < 8
        · have hs := Aside0.mk (show stepsI (j + 1) (i : Int) = stepI (stepsI j (i : Int)) from rfl)
          generalize stepsI j (i : Int) = x at hs
          by_cases hb : Go.bits .and .u32 x 1 = 1
          · have hb1 : (Go.bits .and .u32 x 1 == 1) = true := beq_iff_eq.2 hb
            have hs1 := Aside0.mk (show stepI x = Go.bits .xor .u32 (x / 2) 3988292384 by unfold stepI; rw [if_pos hb])
            clear hb
            go_wp2
            go_round
            case rel => exact ⟨j + 1, by omega, by go_num, by rw [hs.out, hs1.out]⟩
            case measure => simp [intOf]; omega
          · have hb1 : (Go.bits .and .u32 x 1 == 1) = false := beq_eq_false_iff_ne.2 hb
            have hs1 := Aside0.mk (show stepI x = x / 2 by unfold stepI; rw [if_neg hb])
            clear hb
            go_wp2
            go_round
            case rel => exact ⟨j + 1, by omega, by go_num, by rw [hs.out, hs1.out]⟩
            case measure => simp [intOf]; omega
        · obtain rfl : j = 8 := by omega
          clear hj hj8
          have hc := (blk_cell H1.out i).trans (show (cellsTo i)[i]? = some (.int .u32 0) by rw [cellsTo_get, if_pos hlt, if_neg (by omega)])
          have hf := blk_frozen H1.out i
          go_wp2
          go_roundw
          case rel => exact ⟨i + 1, by omega, by go_num, ⟨blk_far H0.out GN.out.symm _⟩, ⟨by have := blk_set H1.out i (.int .u32 (tabI i)); rw [cellsTo_next i hlt] at this; exact this⟩, ⟨HB.out.setCell G1.out _⟩⟩
          case measure => simp [intOf]; omega
    · obtain rfl : i = 256 := by omega
      clear hi hlt
      have hall : (cellsTo 256).all (·.oneCell') = true := cellsTo_one 256
      have hsz1 : (Try.prog.info? 105).map (·.size) = some (cellsTo 256).size := by rw [cellsTo_size]; kernel_rfl
      have hsz2 : zero256.size = (cellsTo 256).size := by rw [cellsTo_size]; rfl
      have HS := Aside0.mk (And.intro hall (And.intro hsz1 hsz2))
      clear hall hsz1 hsz2
      go_wp2_with (first | (refine wpList_load_row rfl 105 _ rfl g1 rfl 105 (cellsTo 256) (0, 0) _ H1.out Try.underlying105 rfl HS.out.2.1 ?_) | (refine wpList_store_row rfl 105 _ _ rfl g0 (cellsTo 256) rfl rfl 105 zero256 H0.out HS.out.2.1 HS.out.2.2 HS.out.1 ?_))
      refine bodyPost_ret (v := .agg (cellsTo 256)) (results_cell_row (P := Try.prog) rfl _ _ g0 105 (cellsTo 256) (0, 0) _ rfl (setRow_heap _ g0 zero256 _ 105 (0, 0) H0.out) Try.underlying105 rfl HS.out.2.1) rfl ⟨rfl, ?_⟩
      exact below_setRow HB.out G0.out _
end Go.Proofs.Ythlllcmffgdcmaa.Crc

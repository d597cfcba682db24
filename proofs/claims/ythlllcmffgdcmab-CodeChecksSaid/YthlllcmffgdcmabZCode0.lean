/- What an op's fields are. -/
import Derived.Test.YthlllcmffgdcmabZPCodeChecksx0
import Derived.Laws.Tables
import Derived.Laws.Rows
section
namespace Go.Proofs.Ythlllcmffgdcmab.Code
open Go.RowKit Go.Proofs.YthlllcmffgdcmabW.PrintWords Go.Proofs.YthlllcmffgdcmabW.PrintLast Go.Proofs.YthlllcmffgdcmabW.PrintMore
set_option linter.unusedVariables false
set_option linter.unusedSimpArgs false
def tabF : List Int := [0,0,0, 1,2,0, 1,1,0, 1,1,1, 1,1,1, 1,1,1, 1,1,1, 3,0,0, 1,3,0, 4,1,1, 1,0,0, 4,1,1, 0,0,0, 5,1,0, 5,1,1, 5,0,0, 7,8,1, 1,0,0, 6,0,0, 6,0,0, 1,0,0, 1,9,0, 10,0,0]
def T69 : Array Value := (tabF.map fun n => Value.int .i64 n).toArray
def zero69 : Array Value := Array.replicate 69 (.int .i64 0)
def fld (o : Nat) (j : Nat) : Int := tabF.getD (o * 3 + j) 0
theorem T69_get (k : Nat) (h : k < 69) : T69[k]? = some (.int .i64 (tabF.getD k 0)) := by
  unfold T69
  rw [List.getElem?_toArray, List.getElem?_map, List.getD_eq_getElem?_getD]
  have hl : tabF.length = 69 := rfl
  rw [List.getElem?_eq_getElem (by omega)]
  rfl
theorem below_setRow {B : Nat} {a w : World} (h : Below B a w) {g : Nat} (hg : B ≤ g) (cs : Array Value) : Below B a (w.setRow g cs) :=
  h.trans ⟨rfl, rfl, rfl, by simp, fun k hk => setRow_other w g k cs (by omega)⟩
theorem results_cb {P : Program} {fn : Func} {p u : Tmp} {ty : TypeId} (h : fn.results = #[.cell p ty, .tmp u]) (tmps : Array Value) (w : World) (g : Nat) (t : TypeId) (cs : Array Value) (fr : Nat × Nat) (d : TypeDesc)
    (hp : tmps.getD p undef = .pointer (some ⟨g, 0, none⟩)) (hg : w.heap[g]? = some (.cells cs t fr))
    (hu : P.underlying ty = some d) (hd : (match d with | .struct _ | .array _ _ => true | _ => false) = true) (hi : (P.info? ty).map (·.size) = some cs.size) :
    (results fn tmps).run P w = .ok (.tuple #[.agg cs, tmps.getD u undef]) w := by
  have hp' : tmps[p]?.getD undef = .pointer (some ⟨g, 0, none⟩) := by simpa using hp
  simp [results, h, hp', asAddr, run_loadVar_row w g t ty cs fr d hg hu hd hi]
theorem alloc179 (ev : Operand → Value) (d : Option Tmp) (t : TypeId) (p : String) (af : Array Edge) (g : Option (Nat × Bool)) (W : World) :
    (execOp ev { dst := d, op := .alloc 179, type := t, pos := p, after := af, guard := g }).run Try.prog W = .ok (.value (.pointer (some ⟨W.heap.size, 0, none⟩))) (W.alloc (.cells zero69 179 (0, 0))) := by kernel_rfl
theorem T69_one : T69.all (·.oneCell') = true := by decide +kernel
set_option maxHeartbeats 2000000 in
set_option maxRecDepth 100000 in
theorem shape_calls (o : Nat) (ho : o < 23) (w : World) : Calls Try.prog 89 #[.int .i64 (o : Int)] w fun e w' => e = .returned (.tuple #[.agg #[.int .i64 (fld o 0), .int .i64 (fld o 1), .int .i64 (fld o 2)], .bool true]) ∧ Below w.heap.size w w' := by
  have hsz1 : (Try.prog.info? 179).map (·.size) = some T69.size := by kernel_rfl
  have hsz2 : zero69.size = T69.size := by kernel_rfl
  have HS := Aside0.mk (And.intro hsz1 (And.intro hsz2 T69_one))
  have hbr := blk_new w (.cells #[.int .i64 0, .int .i64 0, .int .i64 0] 173)
  have HBR := Aside0.mk hbr
  have HB1 := Aside0.mk (below_alloc (Below.refl w.heap.size w) (.cells #[.int .i64 0, .int .i64 0, .int .i64 0] 173))
  have HO := Aside0.mk ho
  have q1 : decide ((o : Int) < 0) = false := decide_eq_false (by omega)
  have q2 : decide ((23 : Int) ≤ (o : Int)) = false := decide_eq_false (by omega)
  have q3 : ¬ ((o : Int) < 0) := by omega
  have q4 : ¬ (23 ≤ o) := by omega
  have b0 : (0 : Int) ≤ (o : Int) := by omega
  have b1 : (o : Int) < 23 := by omega
  clear hsz1 hsz2 hbr ho
  go_enter Try.func89, Try.ntmps89
  go_upto_region 2 with (first
    | ((with_reducible refine gate_dst (N := 4) rfl ?_); refine box_event ?hg (N := 4) ?hd (cs := zero69) (t := 179) ?hr ?_; (case hd => rfl); (case hg => rfl); (case hr => exact alloc179 _ _ _ _ _ _ _); intro g0 hg0 w2 hb0 hB0; have G0 := Aside0.mk hg0; have HB2 := Aside0.mk (below_then HB1.out HB1.out.size hB0); have HR2 := Aside0.mk (blk_below HBR.out hB0); have HG2 := Aside0.mk hb0; clear hg0 hb0 hB0)
    | ((with_reducible refine gate_dst (N := 28) rfl ?_); refine Kd.event_run rfl (v := .agg T69) (w1 := _) (by kernel_rfl) ?_)
    | (refine wpList_store_row rfl 179 _ _ rfl g0 T69 rfl rfl 179 zero69 HG2.out HS.out.1 HS.out.2.1 HS.out.2.2 ?_))
  have hne : w.heap.size ≠ g0 := by have h1 := G0.out; have h2 := blk_lt HR2.out; have h3 := blk_lt HBR.out; rw [h1]; omega
  have HG3 := Aside0.mk (setRow_heap w2 g0 zero69 T69 179 (0, 0) HG2.out)
  have HR3 := Aside0.mk ((setRow_other w2 g0 w.heap.size T69 hne).trans HR2.out)
  have HB3 := Aside0.mk (below_setRow HB2.out (by have h1 := G0.out; have h2 := HB1.out.size; omega) T69 : Below w.heap.size w (w2.setRow g0 T69))
  generalize w2.setRow g0 T69 = w3 at HG3 HR3 HB3 ⊢
  have k0 : w3.cell? ⟨g0, o * 3, none⟩ = some (.int .i64 (fld o 0)) := (blk_cell HG3.out _).trans (T69_get _ (by have := HO.out; omega))
  have k1 : w3.cell? ⟨g0, o * 3 + 1, none⟩ = some (.int .i64 (fld o 1)) := (blk_cell HG3.out _).trans (T69_get _ (by have := HO.out; omega))
  have k2 : w3.cell? ⟨g0, o * 3 + 2, none⟩ = some (.int .i64 (fld o 2)) := (blk_cell HG3.out _).trans (T69_get _ (by have := HO.out; omega))
  have r0 : w3.cell? ⟨w.heap.size, 0, none⟩ = some (.int .i64 0) := (blk_cell HR3.out 0).trans rfl
  have r1 : w3.cell? ⟨w.heap.size, 1, none⟩ = some (.int .i64 0) := (blk_cell HR3.out 1).trans rfl
  have r2 : w3.cell? ⟨w.heap.size, 2, none⟩ = some (.int .i64 0) := (blk_cell HR3.out 2).trans rfl
  have f0 := blk_frozen HR3.out 0
  have f1 := blk_frozen HR3.out 1
  have f2 := blk_frozen HR3.out 2
  have HE := Aside0.mk (show (((w3.setCell ⟨w.heap.size, 0, none⟩ (.int .i64 (fld o 0))).setCell ⟨w.heap.size, 1, none⟩ (.int .i64 (fld o 1))).setCell ⟨w.heap.size, 2, none⟩ (.int .i64 (fld o 2))).heap[w.heap.size]? = some (.cells #[.int .i64 (fld o 0), .int .i64 (fld o 1), .int .i64 (fld o 2)] 173 (0, 0)) by
    simpa using blk_set (blk_set (blk_set HR3.out 0 (.int .i64 (fld o 0))) 1 (.int .i64 (fld o 1))) 2 (.int .i64 (fld o 2)))
  have HBE := Aside0.mk (((HB3.out.setCell (p := ⟨w.heap.size, 0, none⟩) (Nat.le_refl _) (.int .i64 (fld o 0))).setCell (p := ⟨w.heap.size, 1, none⟩) (Nat.le_refl _) (.int .i64 (fld o 1))).setCell (p := ⟨w.heap.size, 2, none⟩) (Nat.le_refl _) (.int .i64 (fld o 2)))
  clear hne
  go_wp2
  exact bodyPost_ret (results_cb (P := Try.prog) rfl _ _ w.heap.size 173 _ (0, 0) _ rfl HE.out Try.underlying173 rfl (by kernel_rfl)) rfl ⟨rfl, HBE.out⟩
set_option maxHeartbeats 2000000 in
set_option maxRecDepth 100000 in
theorem shape_no (o : Int) (ho : o < 0 ∨ 23 ≤ o) (w : World) : Calls Try.prog 89 #[.int .i64 o] w fun e w' => e = .returned (.tuple #[.agg #[.int .i64 0, .int .i64 0, .int .i64 0], .bool false]) ∧ Below w.heap.size w w' := by
  have hsz1 : (Try.prog.info? 179).map (·.size) = some T69.size := by kernel_rfl
  have hsz2 : zero69.size = T69.size := by kernel_rfl
  have HS := Aside0.mk (And.intro hsz1 (And.intro hsz2 T69_one))
  have hbr := blk_new w (.cells #[.int .i64 0, .int .i64 0, .int .i64 0] 173)
  have HBR := Aside0.mk hbr
  have HB1 := Aside0.mk (below_alloc (Below.refl w.heap.size w) (.cells #[.int .i64 0, .int .i64 0, .int .i64 0] 173))
  obtain ⟨b, q1⟩ : ∃ b, decide (o < 0) = b := ⟨_, rfl⟩
  have q2 : b = false → decide ((23 : Int) ≤ o) = true := fun h => by
    rw [h] at q1
    exact decide_eq_true (ho.resolve_left (of_decide_eq_false q1))
  have HQ2 := Aside0.mk q2
  have HO := Aside0.mk ho
  clear hsz1 hsz2 hbr ho q2
  go_enter Try.func89, Try.ntmps89
  go_upto_region 2 with (first
    | ((with_reducible refine gate_dst (N := 4) rfl ?_); refine box_event ?hg (N := 4) ?hd (cs := zero69) (t := 179) ?hr ?_; (case hd => rfl); (case hg => rfl); (case hr => exact alloc179 _ _ _ _ _ _ _); intro g0 hg0 w2 hb0 hB0; have G0 := Aside0.mk hg0; have HB2 := Aside0.mk (below_then HB1.out HB1.out.size hB0); have HR2 := Aside0.mk (blk_below HBR.out hB0); have HG2 := Aside0.mk hb0; clear hg0 hb0 hB0)
    | (refine wpList_store_row rfl 179 _ _ rfl g0 T69 rfl rfl 179 zero69 HG2.out HS.out.1 HS.out.2.1 HS.out.2.2 ?_))
  have hne : w.heap.size ≠ g0 := by have h1 := G0.out; have h2 := blk_lt HR2.out; have h3 := blk_lt HBR.out; rw [h1]; omega
  have HR3 := Aside0.mk ((setRow_other w2 g0 w.heap.size T69 hne).trans HR2.out)
  have HB3 := Aside0.mk (below_setRow HB2.out (by have h1 := G0.out; have h2 := HB1.out.size; omega) T69 : Below w.heap.size w (w2.setRow g0 T69))
  generalize w2.setRow g0 T69 = w3 at HR3 HB3 ⊢
  have r0 : w3.cell? ⟨w.heap.size, 0, none⟩ = some (.int .i64 0) := (blk_cell HR3.out 0).trans rfl
  have r1 : w3.cell? ⟨w.heap.size, 1, none⟩ = some (.int .i64 0) := (blk_cell HR3.out 1).trans rfl
  have r2 : w3.cell? ⟨w.heap.size, 2, none⟩ = some (.int .i64 0) := (blk_cell HR3.out 2).trans rfl
  have f0 := blk_frozen HR3.out 0
  have f1 := blk_frozen HR3.out 1
  have f2 := blk_frozen HR3.out 2
  have HE := Aside0.mk (show (((w3.setCell ⟨w.heap.size, 0, none⟩ (.int .i64 0)).setCell ⟨w.heap.size, 1, none⟩ (.int .i64 0)).setCell ⟨w.heap.size, 2, none⟩ (.int .i64 0)).heap[w.heap.size]? = some (.cells #[.int .i64 0, .int .i64 0, .int .i64 0] 173 (0, 0)) by
    simpa using blk_set (blk_set (blk_set HR3.out 0 (.int .i64 0)) 1 (.int .i64 0)) 2 (.int .i64 0))
  have HBE := Aside0.mk (((HB3.out.setCell (p := ⟨w.heap.size, 0, none⟩) (Nat.le_refl _) (.int .i64 0)).setCell (p := ⟨w.heap.size, 1, none⟩) (Nat.le_refl _) (.int .i64 0)).setCell (p := ⟨w.heap.size, 2, none⟩) (Nat.le_refl _) (.int .i64 0))
  clear hne
  cases b with
  | true =>
    go_wp2
    exact bodyPost_ret (results_cb (P := Try.prog) rfl _ _ w.heap.size 173 _ (0, 0) _ rfl HE.out Try.underlying173 rfl (by kernel_rfl)) rfl ⟨rfl, HBE.out⟩
  | false =>
    have q3 := HQ2.out rfl
    go_wp2
    exact bodyPost_ret (results_cb (P := Try.prog) rfl _ _ w.heap.size 173 _ (0, 0) _ rfl HE.out Try.underlying173 rfl (by kernel_rfl)) rfl ⟨rfl, HBE.out⟩
end Go.Proofs.Ythlllcmffgdcmab.Code
end

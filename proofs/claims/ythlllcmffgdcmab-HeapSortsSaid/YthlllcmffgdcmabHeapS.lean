import Derived.Test.YthlllcmffgdcmabHeap11
namespace Go.Proofs.Ythlllcmffgdcmab.Heap
open Go.RowKit Go.Proofs.YthlllcmffgdcmabW.PrintWords Go.Proofs.YthlllcmffgdcmabW.PrintLast Go.Proofs.YthlllcmffgdcmabW.PrintMore Go.Proofs.Ythlllcmffgdcmab.HeapPlain
set_option linter.unusedVariables false
set_option linter.unusedSimpArgs false

/-- A map's block and a row's, or a heap's, are two. -/
theorem map_ne {w : World} {b g : Nat} {es : Array MapEntry} {cl : Nat} {cs : Array Value} {t : TypeId} (h : w.heap[b]? = some (.map es cl)) (k : w.heap[g]? = some (.cells cs t (0, 0))) : g ≠ b := by
  rintro rfl
  rw [h] at k
  cases k
theorem Cnt.ne_blk {w : World} {b n g : Nat} {D : DataW Unit} (h : Cnt w b n D) {cs : Array Value} {t : TypeId} (k : w.heap[g]? = some (.cells cs t (0, 0))) : g ≠ b := by
  obtain ⟨⟨es, cl, hh, _⟩, _⟩ := h
  exact map_ne hh k
theorem Cnt.ne_row {w : World} {b n B : Nat} {D : DataW Unit} (h : Cnt w b n D) {v : Value} {l : List It} (k : Row w B v l) : v.ownBlock ≠ some b := by
  rcases k.2 with ⟨rfl, _⟩ | ⟨g', cap, cur, rfl, _, hh, _⟩
  · simp [Value.ownBlock]
  · intro e
    have e2 : g' = b := by injection e
    exact h.ne_blk hh e2
theorem Cnt.set {w : World} {b n : Nat} {D : DataW Unit} (h : Cnt w b n D) {q : Addr} (hq : q.block ≠ b) (u : Value) : Cnt (w.setCell q u) b n D := by
  obtain ⟨⟨es, cl, hh, F, hn, hD⟩, h2, h3⟩ := h
  exact ⟨⟨es, cl, (Below.heap_setCell w q u b (Ne.symm hq)).trans hh, F, hn, hD⟩, h2, h3⟩

/-- What stands while a heap is emptied. -/
structure Srt (B p zl bm : Nat) (w0 : World) (f : Nat → Int) (n k : Nat) (w : World) (l : List It) (last : It) (v : Value) (D : DataW Unit) : Prop where
  heap : IsHeap B w p v l n
  srt : Sorts f n k l last
  lst : w.heap[zl]? = some (.cells (a3 last) 88 (0, 0))
  far : v.ownBlock ≠ some zl
  cnt : Cnt w bm k D
  fresh : ∀ y ∈ l, Go.Maps.has D (.int .i64 y.d) = false
  below : Below B w0 w
  ge : B ≤ zl ∧ B ≤ bm

theorem srt_after {B p zl bm n k : Nat} {w0 w5 w6 : World} {f : Nat → Int} {l l' : List It} {last : It} {v v6 : Value} {D : DataW Unit} (h : Srt B p zl bm w0 f n k w5 l last v D) (hS : Step B p v v6 w5 w6) (hR : IsHeap B w6 p v6 l' n) :
    Cnt w6 bm k D ∧ w6.heap[zl]? = some (.cells (a3 last) 88 (0, 0)) ∧ v6.ownBlock ≠ some zl ∧ p ≠ bm ∧ v6.ownBlock ≠ some bm ∧ zl ≠ bm ∧ zl ≠ p := by
  have hpb : p ≠ bm := h.cnt.ne_blk h.heap.blk
  have hvb := h.cnt.ne_row h.heap.row
  have hzb : zl ≠ bm := h.cnt.ne_blk h.lst
  have hzp : zl ≠ p := blk_ne h.lst h.heap.blk (by decide)
  have hc : Cnt w6 bm k D := h.cnt.kept hS.kept (by rintro (e | e); exact hpb e.symm; exact hvb e)
  refine ⟨hc, blk_kept h.lst hS.kept (by rintro (e | e); exact hzp e; exact h.far e), fun e => ?_, hpb, hc.ne_row hR.row, hzb, hzp⟩
  rcases hS.moved zl e with h1 | h1
  · exact h.far h1
  · have := blk_lt h.lst; omega

theorem srt_next {B p zl bm n k : Nat} {w0 w5 w6 w7 : World} {f : Nat → Int} {l : List It} {last x : It} {v v6 : Value} {D : DataW Unit} (h : Srt B p zl bm w0 f n k w5 l last v D) (hl : 0 < l.length) (hx : g l 0 = x)
    (hS : Step B p v v6 w5 w6) (hR : IsHeap B w6 p v6 (rm l 0) n) (hC : Cnt w7 bm (k + 1) (D.put (.int .i64 x.d) (.lit (.int .i64 1)))) (hg : w6.grownBy w7 (some bm)) :
    Srt B p zl bm w0 f n (k + 1) (((w7.setCell ⟨zl, 0, none⟩ (.int .u64 x.t)).setCell ⟨zl, 1, none⟩ (.int .u64 x.s)).setCell ⟨zl, 2, none⟩ (.int .i64 x.d)) (rm l 0) x v6 (D.put (.int .i64 x.d) (.lit (.int .i64 1))) := by
  obtain ⟨_, hz6, hf6, hpb, hvb, hzb, hzp⟩ := srt_after h hS hR
  have hR7 : IsHeap B w7 p v6 (rm l 0) n := ⟨hR.ge, blk_grown hR.blk hg (fun e => hpb (by injection e)), own_other hR.row hg (.inr hvb)⟩
  have hz7 : w7.heap[zl]? = some (.cells (a3 last) 88 (0, 0)) := blk_grown hz6 hg (fun e => hzb (by injection e))
  have hb7 : Below B w0 w7 := (h.below.trans hS.below).grown hg (Nat.le_of_lt (Nat.lt_of_le_of_lt hR.ge hR.plt)) (fun k' hk => by cases hk; exact h.ge.2)
  obtain ⟨r1, r2, r3⟩ := rm_spec l 0 hl h.srt.ord
  have hb8 := blk_set (blk_set (blk_set hz7 0 (.int .u64 x.t)) 1 (.int .u64 x.s)) 2 (.int .i64 x.d)
  have hne : some zl ≠ v6.ownBlock := fun e => hf6 e.symm
  refine ⟨((hR7.far (q := ⟨zl, 0, none⟩) hzp hne _).far (q := ⟨zl, 1, none⟩) hzp hne _).far (q := ⟨zl, 2, none⟩) hzp hne _, hx ▸ h.srt.next hl, by simpa [a3] using hb8, hf6,
    ((hC.set (q := ⟨zl, 0, none⟩) hzb _).set (q := ⟨zl, 1, none⟩) hzb _).set (q := ⟨zl, 2, none⟩) hzb _, fun y hy => ?_, ((hb7.setCell h.ge.1 _).setCell h.ge.1 _).setCell h.ge.1 _, h.ge⟩
  have hyl : y ∈ l := r2.symm.subset (List.mem_cons_of_mem _ hy)
  obtain ⟨i, hi, hxi⟩ := h.srt.mem _ (g_mem l 0 hl)
  obtain ⟨j, hj, hyj⟩ := h.srt.mem _ hyl
  have hnd : (((g l 0) :: rm l 0).map (·.s)).Nodup := (r2.map _).nodup_iff.1 h.srt.nodup
  rw [List.map_cons, List.nodup_cons] at hnd
  have hne2 : y.d ≠ x.d := by
    intro e
    apply hnd.1
    have e1 : (g l 0).s = y.s := by
      rw [← hx, hxi, hyj] at e
      rw [hxi, hyj]
      exact e.symm
    rw [e1]
    exact List.mem_map_of_mem hy
  rw [Cnt.has_put hne2]
  exact h.fresh y hyl
end Go.Proofs.Ythlllcmffgdcmab.Heap

/- SegmentScans' closure: what is seen is kept, until enough is seen. -/
import Derived.Test.YthlllcmffgdcmaaScan0
namespace Go.Proofs.Ythlllcmffgdcmaa.Scans
open Go.RowKit Go.Proofs.Ythlllcmffgdcmaa.QSegmentOpens Go.Proofs.YthlllcmffgdcmaaW.PrintWords Go.Proofs.YthlllcmffgdcmaaW.PrintLast Go.Proofs.YthlllcmffgdcmaaW.PrintMore Go.Proofs.Ythlllcmffgdcmaa.Spoilt Go.Proofs.Ythlllcmffgdcmaa.Scan
set_option linter.unusedVariables false
set_option linter.unusedSimpArgs false

theorem info3 : (Try.prog.info? 3).map (fun i => (i.zero, i.size, i.bytes)) = some (some (.int .i64 0), 1, 8) := by kernel_rfl
theorem info9 : (Try.prog.info? 9).map (fun i => (i.zero, i.size, i.bytes)) = some (some (.string ⟨#[]⟩), 1, 16) := by kernel_rfl

/-- A text's row and a row of numbers, the two cells that hold them (or what they held), and how many are wanted. -/
structure St (w0 : World) (B g st en : Nat) (stop : Int) (vg ve : Value) (xs : List ByteArray) (es : List Int) (vg0 ve0 : Value) (W : World) : Prop where
  cg : W.heap[g]? = some (.cells #[vg0] 62 (0, 0))
  cs : W.heap[st]? = some (.cells #[.int .i64 stop] 3 (0, 0))
  ce : W.heap[en]? = some (.cells #[ve0] 65 (0, 0))
  og : W.ownsRow B 9 1 vg xs.length (encs Value.string xs)
  oe : W.ownsRow B 3 1 ve es.length (nums .i64 es)
  lt : st < B
  bg : B ≤ g
  be : B ≤ en
  bw : B ≤ W.heap.size
  bl : Below B w0 W

theorem row_grown {w w' : World} {B size n : Nat} {e : TypeId} {v : Value} {xs : List Value} {row : Option Nat} (h : w.ownsRow B e size v n xs) (hg : w.grownBy w' row) (hne : ∀ k, v.ownBlock = some k → some k ≠ row) : w'.ownsRow B e size v n xs := by
  have hlt := own_lt h
  obtain ⟨h1, h2⟩ := h
  refine ⟨h1, ?_⟩
  rcases h2 with h2 | ⟨g, cap, cur, rfl, hb, hh, r⟩
  · exact .inl h2
  · exact .inr ⟨g, cap, cur, rfl, hb, (hg.block g (blk_lt hh) (hne g rfl)).trans hh, r⟩
theorem rows_ne {w : World} {B B' e e' size size' n n' : Nat} {v v' : Value} {xs xs' : List Value} (h : w.ownsRow B e size v n xs) (h' : w.ownsRow B' e' size' v' n' xs') (hne : e ≠ e') : ∀ k, v.ownBlock = some k → some k ≠ v'.ownBlock := by
  intro k hk hk'
  rcases h.2 with ⟨rfl, _⟩ | ⟨g, cap, cur, rfl, hb, hh, _⟩
  · cases hk
  · rcases h'.2 with ⟨rfl, _⟩ | ⟨g', cap', cur', rfl, hb', hh', _⟩
    · cases hk'
    · have e1 : g = k := by simpa [Value.ownBlock] using hk
      have e2 : k = g' := by simpa [Value.ownBlock] using hk'
      subst e1 e2
      rw [hh] at hh'
      cases hh'
      exact hne rfl

theorem St.alloc {w0 : World} {B g st en : Nat} {stop : Int} {vg ve vg0 ve0 : Value} {xs : List ByteArray} {es : List Int} {W : World} (h : St w0 B g st en stop vg ve xs es vg0 ve0 W) (o : Obj) : St w0 B g st en stop vg ve xs es vg0 ve0 (W.alloc o) :=
  ⟨blk_alloc h.cg o, blk_alloc h.cs o, blk_alloc h.ce o, h.og.alloc o, h.oe.alloc o, h.lt, h.bg, h.be, Nat.le_trans h.bw (by simp), h.bl.alloc h.bw o⟩
theorem St.drew {w0 : World} {B g st en : Nat} {stop : Int} {vg ve vg0 ve0 : Value} {xs : List ByteArray} {es : List Int} {W : World} (h : St w0 B g st en stop vg ve xs es vg0 ve0 W) : St w0 B g st en stop vg ve xs es vg0 ve0 W.drew := ⟨h.cg, h.cs, h.ce, h.og, h.oe, h.lt, h.bg, h.be, h.bw, h.bl.drew⟩
theorem St.grownG {w0 : World} {B g st en : Nat} {stop : Int} {vg ve vg0 ve0 vg' : Value} {xs : List ByteArray} {es : List Int} {W W' : World} (h : St w0 B g st en stop vg ve xs es vg0 ve0 W) (hg : W.grownBy W' vg.ownBlock) {y : ByteArray} (ho : W'.ownsRow B 9 1 vg' (xs.length + 1) (encs Value.string xs ++ [.string y])) :
    St w0 B g st en stop vg' ve (xs ++ [y]) es vg0 ve0 W' :=
  ⟨blk_grown h.cg hg (own_ne h.og h.cg (by decide)), blk_grown h.cs hg (own_ne h.og h.cs (by decide)), blk_grown h.ce hg (own_ne h.og h.ce (by decide)), by simpa [encs] using ho, row_grown h.oe hg (rows_ne h.oe h.og (by decide)), h.lt, h.bg, h.be, Nat.le_trans h.bw hg.size, h.bl.grown hg h.bw (own_base h.og)⟩
theorem St.grownE {w0 : World} {B g st en : Nat} {stop : Int} {vg ve vg0 ve0 ve' : Value} {xs : List ByteArray} {es : List Int} {W W' : World} (h : St w0 B g st en stop vg ve xs es vg0 ve0 W) (hg : W.grownBy W' ve.ownBlock) {y : Int} (ho : W'.ownsRow B 3 1 ve' (es.length + 1) (nums .i64 es ++ [.int .i64 y])) :
    St w0 B g st en stop vg ve' xs (es ++ [y]) vg0 ve0 W' :=
  ⟨blk_grown h.cg hg (own_ne h.oe h.cg (by decide)), blk_grown h.cs hg (fun hh => by have := own_base h.oe st hh.symm; have := h.lt; omega), blk_grown h.ce hg (own_ne h.oe h.ce (by decide)), row_grown h.og hg (rows_ne h.og h.oe (by decide)), by simpa [nums] using ho, h.lt, h.bg, h.be, Nat.le_trans h.bw hg.size, h.bl.grown hg h.bw (own_base h.oe)⟩
theorem St.store {w0 : World} {B g st en : Nat} {stop : Int} {vg ve vg0 ve0 : Value} {xs : List ByteArray} {es : List Int} {W : World} (h : St w0 B g st en stop vg ve xs es vg0 ve0 W) :
    St w0 B g st en stop vg ve xs es vg ve ((W.setCell ⟨g, 0, none⟩ vg).setCell ⟨en, 0, none⟩ ve) := by
  have hge : g ≠ en := by intro hh; have h1 := h.cg; rw [hh, h.ce] at h1; cases h1
  have h1 := h.lt; have h2 := h.bg; have h3 := h.be
  have a1 : (W.setCell ⟨g, 0, none⟩ vg).heap[g]? = some (.cells #[vg] 62 (0, 0)) := by simpa using blk_set h.cg 0 vg
  have a2 : (W.setCell ⟨g, 0, none⟩ vg).heap[en]? = some (.cells #[ve0] 65 (0, 0)) := (Below.heap_setCell W ⟨g, 0, none⟩ _ _ (fun hh => hge hh.symm)).trans h.ce
  have a3 : (W.setCell ⟨g, 0, none⟩ vg).heap[st]? = some (.cells #[.int .i64 stop] 3 (0, 0)) := (Below.heap_setCell W ⟨g, 0, none⟩ _ _ (by show st ≠ g; omega)).trans h.cs
  have b1 := own_setCell h.og (p := ⟨g, 0, none⟩) (own_ne h.og h.cg (by decide)) vg
  have b2 := own_setCell h.oe (p := ⟨g, 0, none⟩) (own_ne h.oe h.cg (by decide)) vg
  refine ⟨(Below.heap_setCell _ ⟨en, 0, none⟩ _ _ hge).trans a1, (Below.heap_setCell _ ⟨en, 0, none⟩ _ _ (by show st ≠ en; omega)).trans a3, by simpa using blk_set a2 0 ve, own_setCell b1 (p := ⟨en, 0, none⟩) (own_ne b1 a2 (by decide)) ve, own_setCell b2 (p := ⟨en, 0, none⟩) (own_ne b2 a2 (by decide)) ve, h.lt, h.bg, h.be, ?_, (h.bl.setCell (p := ⟨g, 0, none⟩) h.bg vg).setCell (p := ⟨en, 0, none⟩) h.be ve⟩
  simpa using h.bw
end Go.Proofs.Ythlllcmffgdcmaa.Scans

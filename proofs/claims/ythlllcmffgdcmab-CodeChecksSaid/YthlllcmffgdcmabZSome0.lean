/- A program that may be: what stands in memory while it is made. -/
import Derived.Test.YthlllcmffgdcmabZFit
import Derived.Deep.DeepCutAuto
import Derived.Deep.CutBlock
section
namespace Go.Proofs.Ythlllcmffgdcmab.Code
open Go.RowKit Go.Proofs.YthlllcmffgdcmabW.PrintWords Go.Proofs.YthlllcmffgdcmabW.PrintLast Go.Proofs.YthlllcmffgdcmabW.PrintMore
open Go.Proofs.Ythlllcmffgdcmab.PCodeChecks
set_option linter.unusedVariables false
set_option linter.unusedSimpArgs false
theorem info134 : (Try.prog.info? 134).map (fun i => (i.zero, i.size, i.bytes)) = some (some (.agg #[(.int .i64 0), (.int .i64 0), (.int .i64 0)]), 3, 24) := by kernel_rfl
theorem info128 : (Try.prog.info? 128).map (fun i => (i.zero, i.size, i.bytes)) = some (some (.agg #[(.int .i64 0), (.int .i64 0), (.int .i64 0), (.int .i64 0)]), 4, 32) := by kernel_rfl
theorem info125 : (Try.prog.info? 125).map (fun i => (i.zero, i.size, i.bytes)) = some (some (.slice none 0 0), 1, 24) := by kernel_rfl
def sW (w : World) (p : Array Value) : World := (w.alloc (.cells p 112)).alloc (.cells #[.slice none 0 0, .slice none 0 0, .int .i64 0, .slice none 0 0] 112)
theorem sW_below (w : World) (p : Array Value) : Below w.heap.size w (sW w p) := below_alloc (below_alloc (Below.refl _ _) _) _
theorem sW_p (w : World) (p : Array Value) : (sW w p).heap[w.heap.size]? = some (.cells p 112 (0, 0)) := blk_alloc (blk_new w _) _
theorem sW_r (w : World) (p : Array Value) : (sW w p).heap[w.heap.size + 1]? = some (.cells #[.slice none 0 0, .slice none 0 0, .int .i64 0, .slice none 0 0] 112 (0, 0)) := by
  have := blk_new (w.alloc (.cells p 112)) (.cells #[.slice none 0 0, .slice none 0 0, .int .i64 0, .slice none 0 0] 112)
  rwa [show (w.alloc (.cells p 112)).heap.size = w.heap.size + 1 by simp] at this
structure SL (w wx : World) (p : Array Value) (lk : Int) (go : Nat) (ok0 ok3 : Nat → Prop) (v0 v1 v3 : Value) (L0 : List (List S128)) (L1 : List Int) (L3 : List S134) : Prop where
  BP : wx.heap[w.heap.size]? = some (.cells p 112 (0, 0))
  BR : wx.heap[w.heap.size + 1]? = some (.cells #[.slice none 0 0, .slice none 0 0, .int .i64 0, .slice none 0 0] 112 (0, 0))
  BO : wx.heap[go]? = some (.cells #[v0, v1, .int .i64 lk, v3] 112 (0, 0))
  GO : go ≠ w.heap.size ∧ go ≠ w.heap.size + 1 ∧ w.heap.size ≤ go
  HB : Below w.heap.size w wx
  H0 : Kd.S (Kd.slice 128 k128) 125 wx w.heap.size ok0 v0 L0
  H1 : Kd.R (Kd.int .i64) 3 wx w.heap.size (fun _ => True) v1 L1
  H3 : Kd.R k134 134 wx w.heap.size ok3 v3 L3
section
variable {w wx w' : World} {p : Array Value} {lk : Int} {go gk : Nat} {ok0 ok3 ok0' ok3' : Nat → Prop} {v0 v1 v3 v' : Value} {L0 L0' : List (List S128)} {L1 : List Int} {L3 L' : List S134}
theorem SL.below (h : SL w wx p lk go ok0 ok3 v0 v1 v3 L0 L1 L3) (hb : Below wx.heap.size wx w') : SL w w' p lk go ok0 ok3 v0 v1 v3 L0 L1 L3 :=
  ⟨blk_below h.BP hb, blk_below h.BR hb, blk_below h.BO hb, h.GO, below_then h.HB h.HB.size hb, Kd.S_below h.H0 hb, Kd.R_below h.H1 hb, Kd.R_below h.H3 hb⟩
theorem SL.drew (h : SL w wx p lk go ok0 ok3 v0 v1 v3 L0 L1 L3) : SL w wx.drew p lk go ok0 ok3 v0 v1 v3 L0 L1 L3 := h.below (below_drew (Below.refl _ _))
theorem SL.alloc (h : SL w wx p lk go ok0 ok3 v0 v1 v3 L0 L1 L3) (o : Obj) : SL w (wx.alloc o) p lk go ok0 ok3 v0 v1 v3 L0 L1 L3 := h.below (below_alloc (Below.refl _ _) o)
theorem SL.mono (h : SL w wx p lk go ok0 ok3 v0 v1 v3 L0 L1 L3) (h0 : ∀ k, ok0 k → ok0' k) (h3 : ∀ k, ok3 k → ok3' k) : SL w wx p lk go ok0' ok3' v0 v1 v3 L0 L1 L3 :=
  ⟨h.BP, h.BR, h.BO, h.GO, h.HB, Kd.S_mono h.H0 h0, h.H1, Kd.R_mono h.H3 h3⟩
theorem SL.box (h : SL w wx p lk go ok0 ok3 v0 v1 v3 L0 L1 L3) (hb : Below wx.heap.size wx w') (hg : gk = wx.heap.size) : SL w w' p lk go (fun k => ok0 k ∧ k ≠ gk) (fun k => ok3 k ∧ k ≠ gk) v0 v1 v3 L0 L1 L3 ∧ (gk ≠ w.heap.size ∧ gk ≠ w.heap.size + 1 ∧ gk ≠ go ∧ w.heap.size ≤ gk) := by
  have g1 := blk_lt h.BP
  have g2 := blk_lt h.BR
  have g3 := blk_lt h.BO
  refine ⟨⟨blk_below h.BP hb, blk_below h.BR hb, blk_below h.BO hb, h.GO, below_then h.HB h.HB.size hb, Kd.S_below (Kd.S_elderB h.H0 gk (by omega)) hb, Kd.R_below h.H1 hb, Kd.R_below (Kd.R_elderB h.H3 gk (by omega)) hb⟩, by omega, by omega, by omega, by omega⟩
theorem SL.set (h : SL w wx p lk go ok0 ok3 v0 v1 v3 L0 L1 L3) (hg : gk ≠ w.heap.size ∧ gk ≠ w.heap.size + 1 ∧ gk ≠ go ∧ w.heap.size ≤ gk) (h0 : ∀ k, ok0 k → k ≠ gk) (h3 : ∀ k, ok3 k → k ≠ gk) {cs : Array Value} {t : TypeId} (hb : wx.heap[gk]? = some (.cells cs t (0, 0))) (ht : 3 ≠ t) (j : Nat) (u : Value) :
    SL w (wx.setCell ⟨gk, j, none⟩ u) p lk go ok0 ok3 v0 v1 v3 L0 L1 L3 :=
  ⟨blk_far h.BP (p := ⟨gk, j, none⟩) hg.1.symm u, blk_far h.BR (p := ⟨gk, j, none⟩) hg.2.1.symm u, blk_far h.BO (p := ⟨gk, j, none⟩) hg.2.2.1.symm u, h.GO, h.HB.setCell hg.2.2.2 u, Kd.S_far (p := ⟨gk, j, none⟩) h.H0 h0 u, Kd.R_set h.H1 hb (by intro q hq; rw [List.mem_singleton.1 hq]; exact ht) j u, Kd.R_far (p := ⟨gk, j, none⟩) h.H3 h3 u⟩
theorem three_set {w : World} {g : Nat} {t : TypeId} {a b c : Value} (h : w.heap[g]? = some (.cells #[a, b, c] t (0, 0))) (x y z : Value) : (((w.setCell ⟨g, 0, none⟩ x).setCell ⟨g, 1, none⟩ y).setCell ⟨g, 2, none⟩ z).heap[g]? = some (.cells #[x, y, z] t (0, 0)) := by
  simpa using blk_set (blk_set (blk_set h 0 x) 1 y) 2 z
theorem far3 {w : World} {g k : Nat} {t : TypeId} {cs : Array Value} (h : w.heap[k]? = some (.cells cs t (0, 0))) (hk : k ≠ g) (x y z : Value) : (((w.setCell ⟨g, 0, none⟩ x).setCell ⟨g, 1, none⟩ y).setCell ⟨g, 2, none⟩ z).heap[k]? = some (.cells cs t (0, 0)) := blk_far (blk_far (blk_far h hk x) hk y) hk z
theorem SL.set3 (h : SL w wx p lk go ok0 ok3 v0 v1 v3 L0 L1 L3) (hg : gk ≠ w.heap.size ∧ gk ≠ w.heap.size + 1 ∧ gk ≠ go ∧ w.heap.size ≤ gk) (h0 : ∀ k, ok0 k → k ≠ gk) (h3 : ∀ k, ok3 k → k ≠ gk) {cs : Array Value} {t : TypeId} (hb : wx.heap[gk]? = some (.cells cs t (0, 0))) (ht : 3 ≠ t) (x y z : Value) :
    SL w (((wx.setCell ⟨gk, 0, none⟩ x).setCell ⟨gk, 1, none⟩ y).setCell ⟨gk, 2, none⟩ z) p lk go ok0 ok3 v0 v1 v3 L0 L1 L3 :=
  ((h.set hg h0 h3 hb ht 0 x).set hg h0 h3 (blk_set hb 0 x) ht 1 y).set hg h0 h3 (blk_set (blk_set hb 0 x) 1 y) ht 2 z
theorem SL.mid3 (h : SL w wx p lk go ok0 ok3 v0 v1 v3 L0 L1 L3) (hg : wx.grownBy w' v3.ownBlock) : w'.heap[go]? = some (.cells #[v0, v1, .int .i64 lk, v3] 112 (0, 0)) := blk_grown h.BO hg (Kd.R_ne h.H3 h.BO (by decide))
theorem SL.push3 (h : SL w wx p lk go ok0 ok3 v0 v1 v3 L0 L1 L3) (hg : wx.grownBy w' v3.ownBlock) (hb : Below w.heap.size w w') (ho : Kd.R k134 134 w' w.heap.size ok3' v' L') :
    SL w (w'.setCell ⟨go, 3, none⟩ v') p lk go ok0 ok3' v0 v1 v' L0 L1 L' := by
  have hO := h.mid3 hg
  refine ⟨blk_far (p := ⟨go, 3, none⟩) (blk_grown h.BP hg (Kd.R_ne h.H3 h.BP (by decide))) h.GO.1.symm v', blk_far (p := ⟨go, 3, none⟩) (blk_grown h.BR hg (Kd.R_ne h.H3 h.BR (by decide))) h.GO.2.1.symm v', by simpa using blk_set hO 3 v', h.GO, hb.setCell h.GO.2.2 v', ?_, ?_, Kd.R_set ho hO (by decide) 3 v'⟩
  · exact Kd.S_set (Kd.S_over' h.H0 (Kd.R_typed h.H3) (by decide) hg) hO (by decide) 3 v'
  · exact Kd.R_set (Kd.R_over' h.H1 (Kd.R_typed h.H3) (by decide) hg) hO (by decide) 3 v'
theorem below_of_grown (hg : wx.grownBy w' none) : Below wx.heap.size wx w' := ⟨hg.os, hg.tape, hg.output, hg.size, fun i hi => hg.block i hi (by simp)⟩
theorem SL.make0 (h : SL w wx p lk go ok0 ok3 v0 v1 v3 L0 L1 L3) (hg : wx.grownBy w' none) (ho : Kd.S (Kd.slice 128 k128) 125 w' w.heap.size ok0' v' L0') :
    SL w (w'.setCell ⟨go, 0, none⟩ v') p lk go ok0' ok3 v' v1 v3 L0' L1 L3 := by
  have k := h.below (below_of_grown hg)
  exact ⟨blk_far (p := ⟨go, 0, none⟩) k.BP h.GO.1.symm v', blk_far (p := ⟨go, 0, none⟩) k.BR h.GO.2.1.symm v', by simpa using blk_set k.BO 0 v', h.GO, k.HB.setCell h.GO.2.2 v', Kd.S_set ho k.BO (by decide) 0 v', Kd.R_set k.H1 k.BO (by decide) 0 v', Kd.R_set k.H3 k.BO (by decide) 0 v'⟩
theorem SL.row {wz : World} {g0 n cap i : Nat} {l : List S128} (h : SL w wz p lk go (fun _ => True) ok3 (.slice (some ⟨g0, 0, none⟩) n cap) v1 v3 L0 L1 L3) (hb : Below wz.heap.size wz w') (hr : Kd.R k128 128 w' wz.heap.size (fun _ => True) v' l) (hi : i < n) :
    (∃ u, w'.cell? ⟨g0, i, none⟩ = some u) ∧ w'.frozen? ⟨g0, i, none⟩ = false ∧ SL w (w'.setCell ⟨g0, i, none⟩ v') p lk go (fun _ => True) ok3 (.slice (some ⟨g0, 0, none⟩) n cap) v1 v3 (L0.set i l) L1 L3 := by
  have k := h.below hb
  have hs := Kd.S_elder' h.H0 (v := v') (Kd.R_base hr) hb
  have hn := (Kd.S_reads' hs).1
  obtain ⟨oki, c, hcl, hM, hcc, hfr, hoki, hH⟩ := Kd.S_elem hs ([] : List S128) (i : Int) (by omega) (by omega)
  have hcl1 : c.length = 1 := hcl
  obtain ⟨u, rfl⟩ := List.length_eq_one_iff.1 hcl1
  have hc0 := hcc 0 u rfl
  have hf0 := hfr 0
  have e1 : ((i : Int).toNat * (Kd.slice 128 k128).sz + 0) = i := by show (i : Int).toNat * 1 + 0 = i; omega
  rw [e1] at hc0 hf0
  obtain ⟨g1, cap1, hv1, hg1, hg2, cells, hcells⟩ := Kd.S_form hs (by omega)
  have hgg : g1 = g0 := by injection hv1 with a _ _; injection a with a; injection a with a _ _; exact a.symm
  subst hgg
  have hlow : Kd.R k128 128 w' w.heap.size (fun k => some k = v'.ownBlock) v' l := Kd.R_tight rfl (Kd.R_lower hr h.HB.size)
  obtain ⟨hS, -⟩ := Kd.S_seg (ok := fun _ => True) (okg := fun k => some k = v'.ownBlock) (okp := fun k => some k = v'.ownBlock) (seg := [v']) (j := 0) (x' := l) hH (by omega) (by omega) (show 0 + 1 ≤ 1 by decide) (by simpa using Kd.M_row hlow) (fun k hk => Or.inr hk) (fun k hk => ⟨trivial, fun he => Kd.R_ne hr hcells (by decide) (by rw [← he]; exact hk)⟩)
  rw [e1] at hS
  refine ⟨⟨u, hc0⟩, hf0, blk_far (p := ⟨g1, i, none⟩) k.BP (blk_ne k.BP hcells (by decide)) v', blk_far (p := ⟨g1, i, none⟩) k.BR (blk_ne k.BR hcells (by decide)) v', blk_far (p := ⟨g1, i, none⟩) k.BO (blk_ne k.BO hcells (by decide)) v', h.GO, k.HB.setCell hg1 v', ?_, Kd.R_set k.H1 hcells (by decide) i v', Kd.R_set k.H3 hcells (by decide) i v'⟩
  simpa [World.setCells] using hS
theorem SL.fin (h : SL w wx p lk go ok0 ok3 v0 v1 v3 L0 L1 L3) (x y z u : Value) :
    ∀ w4, w4 = ((((wx.setCell ⟨w.heap.size + 1, 0, none⟩ x).setCell ⟨w.heap.size + 1, 1, none⟩ y).setCell ⟨w.heap.size + 1, 2, none⟩ z).setCell ⟨w.heap.size + 1, 3, none⟩ u) →
    w4.heap[w.heap.size + 1]? = some (.cells #[x, y, z, u] 112 (0, 0)) ∧ Kd.S (Kd.slice 128 k128) 125 w4 w.heap.size ok0 v0 L0 ∧ Kd.R (Kd.int .i64) 3 w4 w.heap.size (fun _ => True) v1 L1 ∧ Kd.R k134 134 w4 w.heap.size ok3 v3 L3 ∧ Below w.heap.size w w4 := by
  rintro _ rfl
  have b1 := blk_set h.BR 0 x
  have b2 := blk_set b1 1 y
  have b3 := blk_set b2 2 z
  refine ⟨four_set h.BR x y z u, ?_, ?_, ?_, four_below h.HB (by omega) x y z u⟩
  · exact Kd.S_set (Kd.S_set (Kd.S_set (Kd.S_set h.H0 h.BR (by decide) 0 x) b1 (by decide) 1 y) b2 (by decide) 2 z) b3 (by decide) 3 u
  · exact Kd.R_set (Kd.R_set (Kd.R_set (Kd.R_set h.H1 h.BR (by decide) 0 x) b1 (by decide) 1 y) b2 (by decide) 2 z) b3 (by decide) 3 u
  · exact Kd.R_set (Kd.R_set (Kd.R_set (Kd.R_set h.H3 h.BR (by decide) 0 x) b1 (by decide) 1 y) b2 (by decide) 2 z) b3 (by decide) 3 u
end
theorem lit1 {w : World} {g : Nat} (h : w.heap[g]? = some (.cells #[.int .i64 0, .int .i64 0, .int .i64 0, .int .i64 0] 128 (0, 0))) : Kd.C k128 w (some ⟨g, 0, none⟩) 1 [z128] := by
  refine ⟨rfl, by decide, fun _ => ⟨_, rfl, fun j q hj => ?_⟩⟩
  cases j with
  | succ j => simp at hj
  | zero =>
    simp at hj
    subst hj
    refine ⟨_, rfl, k128_mk w z128, fun i u hu => ?_⟩
    have e : Addr.add ⟨g, 0, none⟩ (0 * k128.sz + i) = ⟨g, i, none⟩ := by simp [add_at]
    rw [e, blk_cell h i]
    simpa [z128] using hu
theorem lit2 {w : World} {g g1 : Nat} (h1 : w.heap[g1]? = some (.cells #[.int .i64 0, .int .i64 0, .int .i64 0, .int .i64 0] 128 (0, 0))) (h : w.heap[g]? = some (.cells #[.slice (some ⟨g1, 0, none⟩) 1 1] 125 (0, 0))) : Kd.C (Kd.slice 128 k128) w (some ⟨g, 0, none⟩) 1 [[z128]] := by
  refine ⟨rfl, by decide, fun _ => ⟨_, rfl, fun j q hj => ?_⟩⟩
  cases j with
  | succ j => simp at hj
  | zero =>
    simp at hj
    subst hj
    refine ⟨[.slice (some ⟨g1, 0, none⟩) 1 1], rfl, ⟨_, _, rfl, by decide, lit1 h1⟩, fun i u hu => ?_⟩
    have e : Addr.add ⟨g, 0, none⟩ (0 * (Kd.slice 128 k128).sz + i) = ⟨g, i, none⟩ := by simp [add_at]
    rw [e, blk_cell h i]
    simpa using hu
def rowOk (nf nc : Nat) (lk : Int) (ncs : Nat) (r : List S128) : Prop := (1 ≤ r.length ∧ r.length ≤ 64) ∧ ∀ z ∈ r, insF nf nc lk ncs r.length z.f0 z.f1 z.f2 z.f3 = 0
theorem getD_mem {α : Type} (xs : List α) (z : α) {i : Nat} (h : i < xs.length) : xs.getD i z ∈ xs := by
  rw [List.getD_eq_getElem?_getD, List.getElem?_eq_getElem h]
  exact List.getElem_mem h
theorem ok_of {L0 : List (List S128)} {L1 : List Int} {lk : Int} {L3 : List S134} (h0 : 1 ≤ L0.length ∧ L0.length ≤ 5) (h1 : L1.length ≤ 4) (h3 : L3.length ≤ 8) (hl : 0 ≤ lk ∧ lk < 4) (hc : ∀ x ∈ L1, 0 ≤ x ∧ x < 4) (hs : ∀ z ∈ L3, okC L1.length z) (hr : ∀ j, j < L0.length → rowOk L0.length L1.length lk L3.length (rd_L5 L0 (j : Nat))) : Ok L0 L1 lk L3 := by
  refine ⟨by omega, by omega, by omega, by omega, fun i hi => ?_, fun i hi => ?_, fun i hi => (hr i hi).1, fun i hi j hj => (hr i hi).2 _ ?_⟩
  · have := hc _ (getD_mem L1 0 hi)
    have e : rd L1 (i : Nat) = L1.getD i 0 := rfl
    rw [e]; omega
  · exact hs _ (getD_mem L3 z134 hi)
  · exact getD_mem _ z128 hj
end Go.Proofs.Ythlllcmffgdcmab.Code
end

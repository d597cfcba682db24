import Derived.Test.YthlllcmffgdcmaaScans0
import Derived.Deep.AppendLies
import Derived.Deep.RegionLaw
namespace Go.Proofs.Ythlllcmffgdcmaa.Scans
open Go.RowKit Go.Proofs.Ythlllcmffgdcmaa.QSegmentOpens Go.Proofs.YthlllcmffgdcmaaW.PrintWords Go.Proofs.YthlllcmffgdcmaaW.PrintLast Go.Proofs.YthlllcmffgdcmaaW.PrintMore Go.Proofs.Ythlllcmffgdcmaa.Spoilt Go.Proofs.Ythlllcmffgdcmaa.Scan
set_option linter.unusedVariables false
set_option linter.unusedSimpArgs false

theorem info_parts {P : Program} {e : TypeId} {z : Value} {s b : Nat} (h : (P.info? e).map (fun i => (i.zero, i.size, i.bytes)) = some (some z, s, b)) : ∃ i, P.info? e = some i ∧ i.zero = some z ∧ i.size = s ∧ i.bytes = b := by
  rcases hi : P.info? e with _ | i
  · rw [hi] at h; cases h
  · rw [hi] at h
    simp only [Option.map_some, Option.some.injEq, Prod.mk.injEq] at h
    exact ⟨i, rfl, h.1, h.2.1, h.2.2⟩

theorem news_one {W : World} {b : Nat} {v : Value} {t : TypeId} (h : W.heap[b]? = some (.cells #[v] t (0, 0))) : ∀ j u, [v][j]? = some u → W.cell? ((⟨b, 0, none⟩ : Addr).add j) = some u := by
  intro j u hu
  rcases j with _ | j
  · rw [add_plain]; exact (blk_cell h 0).trans hu
  · simp at hu

theorem arm_g {ops : Array Oper} {o : Oper} {a : Act} {K : Act → World → Prop} {Q : Exit → Act → World → Prop} {E : Prop} (hgd : o.guard = none) {W : World}
    (ho : o.op = .call { callee := .builtin .append, args := #[.tmp 12, .tmp 14], argTypes := #[62, 62] })
    {w0 : World} {B g st en : Nat} {stop : Int} {vg ve vg0 ve0 : Value} {xs : List ByteArray} {es : List Int} (h : St w0 B g st en stop vg ve xs es vg0 ve0 W) (hs : a.eval (.tmp 12) = vg)
    (b : Nat) (y : ByteArray) (hx : a.eval (.tmp 14) = .slice (some ⟨b, 0, none⟩) 1 1) (hb : W.heap[b]? = some (.cells #[.string y] 9 (0, 0))) (hl : xs.length ≤ 1000000)
    (k : ∀ gg c W', St w0 B g st en stop (.slice (some ⟨gg, 0, none⟩) (xs.length + 1) c) ve (xs ++ [y]) es vg0 ve0 W' → W.grownBy W' vg.ownBlock → K (a.put o.dst (.slice (some ⟨gg, 0, none⟩) (xs.length + 1) c)) W') :
    if Region.wanted o (yielded ops a.tmps) = true then Oper.wp Try.prog o a W K Q else E := by
  obtain ⟨j0, hj0, hz0, hz1, hz2⟩ := info_parts info9
  refine step_append_lies _ hgd (.tmp 12) (.tmp 14) 62 ho B 9 j0 _ 1 16 Try.underlying62 hj0 hz0 hz1 hz2 rfl (by omega) vg xs.length (encs Value.string xs) hs h.og ⟨b, 0, none⟩ 1 1 [.string y] hx rfl (news_one hb) (by simp [Value.oneCell']) (by omega) (by unfold maxLen; omega) (by omega) h.bw W.heap.size rfl ?_
  intro gg c W' hown hgr _ _
  exact k gg c W' (h.grownG hgr hown) hgr

theorem arm_e {ops : Array Oper} {o : Oper} {a : Act} {K : Act → World → Prop} {Q : Exit → Act → World → Prop} {E : Prop} (hgd : o.guard = none) {W : World}
    (ho : o.op = .call { callee := .builtin .append, args := #[.tmp 16, .tmp 18], argTypes := #[65, 65] })
    {w0 : World} {B g st en : Nat} {stop : Int} {vg ve vg0 ve0 : Value} {xs : List ByteArray} {es : List Int} (h : St w0 B g st en stop vg ve xs es vg0 ve0 W) (hs : a.eval (.tmp 16) = ve)
    (b : Nat) (y : Int) (hx : a.eval (.tmp 18) = .slice (some ⟨b, 0, none⟩) 1 1) (hb : W.heap[b]? = some (.cells #[.int .i64 y] 3 (0, 0))) (hl : es.length ≤ 1000000)
    (k : ∀ gg c W', St w0 B g st en stop vg (.slice (some ⟨gg, 0, none⟩) (es.length + 1) c) xs (es ++ [y]) vg0 ve0 W' → W.grownBy W' ve.ownBlock → K (a.put o.dst (.slice (some ⟨gg, 0, none⟩) (es.length + 1) c)) W') :
    if Region.wanted o (yielded ops a.tmps) = true then Oper.wp Try.prog o a W K Q else E := by
  obtain ⟨j0, hj0, hz0, hz1, hz2⟩ := info_parts info3
  refine step_append_lies _ hgd (.tmp 16) (.tmp 18) 65 ho B 3 j0 _ 1 8 Try.underlying65 hj0 hz0 hz1 hz2 rfl (by omega) ve es.length (nums .i64 es) hs h.oe ⟨b, 0, none⟩ 1 1 [.int .i64 y] hx rfl (news_one hb) (by simp [Value.oneCell']) (by omega) (by unfold maxLen; omega) (by omega) h.bw W.heap.size rfl ?_
  intro gg c W' hown hgr _ _
  exact k gg c W' (h.grownE hgr hown) hgr

theorem new_two (w : World) (o o' : Obj) : ((w.alloc o).alloc o').heap[w.heap.size + 1]? = some o' := by
  have := blk_new (w.alloc o) o'
  simpa using this
/-- The two cells that the region reads. -/
def Two (g en : Nat) (vg ve : Value) (w' : World) : Prop := w'.cell? ⟨g, 0, none⟩ = some vg ∧ w'.cell? ⟨en, 0, none⟩ = some ve
theorem St.two {w0 : World} {B g st en : Nat} {stop : Int} {vg ve vg0 ve0 : Value} {xs : List ByteArray} {es : List Int} {W : World} (h : St w0 B g st en stop vg ve xs es vg0 ve0 W) : Two g en vg0 ve0 W := ⟨(blk_cell h.cg 0).trans rfl, (blk_cell h.ce 0).trans rfl⟩
theorem St.fz {w0 : World} {B g st en : Nat} {stop : Int} {vg ve vg0 ve0 : Value} {xs : List ByteArray} {es : List Int} {W : World} (h : St w0 B g st en stop vg ve xs es vg0 ve0 W) : W.frozen? ⟨g, 0, none⟩ = false ∧ W.frozen? ⟨en, 0, none⟩ = false := ⟨blk_frozen h.cg 0, blk_frozen h.ce 0⟩
theorem St.fzs {w0 : World} {B g st en : Nat} {stop : Int} {vg ve vg0 ve0 : Value} {xs : List ByteArray} {es : List Int} {W : World} (h : St w0 B g st en stop vg ve xs es vg0 ve0 W) (u : Value) : (W.setCell ⟨g, 0, none⟩ u).cell? ⟨en, 0, none⟩ = some ve0 := by
  rw [World.cell?_setCell_other _ _ _ _ (fun hh => by
    injection hh with hh
    have h1 := h.cg; rw [hh, h.ce] at h1; cases h1), h.two.2]
theorem Two.drew {g en : Nat} {vg ve : Value} {W : World} (h : Two g en vg ve W) : Two g en vg ve W.drew := h
theorem Two.alloc {g en : Nat} {vg ve : Value} {W : World} (h : Two g en vg ve W) (o : Obj) : Two g en vg ve (W.alloc o) := ⟨pw_cell_below (below_alloc (Below.refl _ _) o) h.1, pw_cell_below (below_alloc (Below.refl _ _) o) h.2⟩

set_option maxHeartbeats 4000000 in
set_option maxRecDepth 100000 in
theorem see36 (w0 : World) (B g st en : Nat) (stop : Int) (vg ve : Value) (xs : List ByteArray) (es : List Int) (body : ByteArray) (next : Int) (w : World) (h : St w0 B g st en stop vg ve xs es vg ve w) (hne : (xs.length : Int) ≠ stop) (hl : xs.length ≤ 1000000) (hl2 : es.length ≤ 1000000) :
    Calls Try.prog 36 #[.string body, .int .i64 next, .pointer (some ⟨g, 0, none⟩), .pointer (some ⟨st, 0, none⟩), .pointer (some ⟨en, 0, none⟩)] w fun e w' =>
      e = .returned (.bool true) ∧ ∃ vg' ve', St w0 B g st en stop vg' ve' (xs ++ [body]) (es ++ [next]) vg' ve' w' := by
  have HS := Aside0.mk h
  have hgv : ∃ A c, vg = .slice A xs.length c := by
    have := h.og
    obtain ⟨A, c, e, _⟩ := own_reads_of (d := ByteArray.empty) this
    exact ⟨A, c, e⟩
  obtain ⟨A, c, rfl⟩ := hgv
  obtain ⟨k0, k2⟩ := h.two
  have k1 : w.cell? ⟨st, 0, none⟩ = some (.int .i64 stop) := (blk_cell h.cs 0).trans rfl
  have q1 : ((xs.length : Int) == stop) = false := beq_eq_false_iff_ne.2 hne
  clear h hne
  go_enter Try.func36, Try.ntmps36
  go_wp2
  have hS0 := HS.out
  obtain ⟨ob, hob⟩ : ∃ o, o = Obj.cells #[Value.string body] 9 := ⟨_, rfl⟩
  obtain ⟨oe, hoe⟩ : ∃ o, o = Obj.cells #[Value.int IntKind.i64 next] 3 := ⟨_, rfl⟩
  obtain ⟨m1, m2⟩ := (hS0.alloc ob).two
  obtain ⟨m3, m4⟩ := (hS0.alloc oe).two
  obtain ⟨m5, m6⟩ := ((hS0.alloc ob).alloc oe).two
  obtain ⟨m7, m8⟩ := ((hS0.alloc oe).alloc ob).two
  have p1 := blk_drew (blk_alloc (blk_new w oe) ob)
  have p2 := blk_drew (new_two w ob oe)
  have ne0 : some w.heap.size ≠ (Value.slice A xs.length c).ownBlock := own_ne_new hS0.og 0
  have ne1 : some (w.heap.size + 1) ≠ (Value.slice A xs.length c).ownBlock := own_ne_new hS0.og 1
  subst hob hoe
  go_region_law (first
      | (refine arm_g (by rfl) (by rfl) (show St w0 B g st en stop (.slice A xs.length c) _ xs _ (.slice A xs.length c) ve _ by repeat (first | with_reducible exact hS0 | with_reducible apply St.alloc | with_reducible apply St.drew)) (by rfl) _ body (by rfl) (by repeat (first | with_reducible exact new_two _ _ _ | with_reducible exact blk_new _ _ | with_reducible exact blk_grown p1 hG1 ne0 | with_reducible exact blk_grown p2 hG1 ne1 | with_reducible apply blk_alloc | with_reducible apply blk_drew)) (by omega) ?_; intro g3 c3 w3 hS1 hG1; have n1 := hS1.two.1; have n2 := hS1.two.2; have n3 := (hS1.alloc (Obj.cells #[Value.int IntKind.i64 next] 3)).two.1; have n4 := (hS1.alloc (Obj.cells #[Value.int IntKind.i64 next] 3)).two.2; have HA1 := Aside0.mk hS1; clear hS1)
      | (refine arm_e (by rfl) (by rfl) (show St w0 B g st en stop _ ve _ es (.slice A xs.length c) ve _ by repeat (first | with_reducible exact HA1.out | with_reducible apply St.alloc | with_reducible apply St.drew)) (by rfl) _ next (by rfl) (by repeat (first | with_reducible exact new_two _ _ _ | with_reducible exact blk_new _ _ | with_reducible exact blk_grown p1 hG1 ne0 | with_reducible exact blk_grown p2 hG1 ne1 | with_reducible apply blk_alloc | with_reducible apply blk_drew)) (by omega) ?_; intro g5 c5 w5 hS2 hG2; have o1 := hS2.two.1; have o2 := hS2.two.2; have o3 := hS2.fz.1; have o4 := hS2.fz.2; have o5 := hS2.fzs (Value.slice (some ⟨g3, 0, none⟩) (xs.length + 1) c3)))
  all_goals
    go_wp2
    go_ret
    exact ⟨rfl, _, _, hS2.store⟩

set_option maxHeartbeats 1000000 in
theorem see36_stop (w0 : World) (B g st en : Nat) (stop : Int) (vg ve : Value) (xs : List ByteArray) (es : List Int) (body : ByteArray) (next : Int) (w : World) (h : St w0 B g st en stop vg ve xs es vg ve w) (hne : (xs.length : Int) = stop) (hl : xs.length ≤ 1000000) :
    Calls Try.prog 36 #[.string body, .int .i64 next, .pointer (some ⟨g, 0, none⟩), .pointer (some ⟨st, 0, none⟩), .pointer (some ⟨en, 0, none⟩)] w fun e w' =>
      e = .returned (.bool false) ∧ w = w' := by
  obtain ⟨A, c, e, _⟩ := own_reads_of (d := ByteArray.empty) h.og
  subst e
  obtain ⟨k0, k2⟩ := h.two
  have k1 : w.cell? ⟨st, 0, none⟩ = some (.int .i64 stop) := (blk_cell h.cs 0).trans rfl
  have q1 : ((xs.length : Int) == stop) = true := beq_iff_eq.2 hne
  clear h hne
  go_enter Try.func36, Try.ntmps36
  go_wp2
  go_ret
  exact ⟨rfl, rfl⟩
end Go.Proofs.Ythlllcmffgdcmaa.Scans

import Derived.Test.YthlllcmffgdcmabHeap10
import Derived.Test.YthlllcmffgdcmabHeapPlays
import Derived.WalkLawsBesides
namespace Go.Proofs.Ythlllcmffgdcmab.Heap
open Go.RowKit Go.Proofs.YthlllcmffgdcmabW.PrintWords Go.Proofs.YthlllcmffgdcmabW.PrintLast Go.Proofs.YthlllcmffgdcmabW.PrintMore Go.Proofs.Ythlllcmffgdcmab.HeapPlain
set_option linter.unusedVariables false
set_option linter.unusedSimpArgs false

theorem cs3_one (l : List It) : ∀ u ∈ cs3 l, u.oneCell' = true := by
  intro u hu
  simp only [cs3, List.mem_flatMap] at hu
  obtain ⟨p, _, hu⟩ := hu
  simp only [c3, List.mem_cons, List.not_mem_nil, or_false] at hu
  rcases hu with rfl | rfl | rfl <;> rfl
theorem top_of (l : List It) : ∃ now : Int, ∀ y ∈ l, y.t ≤ now := by
  induction l with
  | nil => exact ⟨0, fun y hy => by cases hy⟩
  | cons a l ih =>
    obtain ⟨m, hm⟩ := ih
    refine ⟨if m < a.t then a.t else m, fun y hy => ?_⟩
    rcases List.mem_cons.1 hy with rfl | hy
    · split <;> omega
    · have := hm y hy
      split <;> omega
section
variable {P : Program}
/-- A row of one's own, laid behind an empty one. -/
theorem lay_copy {ops : Array Oper} {rest : List Oper} {o : Oper} {a : Act} {Q : Exit → Act → World → Prop} {W : World} (hgd : o.guard = none) (s x : Operand) (t : TypeId)
    (ho : o.op = .call { callee := .builtin .append, args := #[s, x], argTypes := #[t, t] })
    (base : Nat) (e : TypeId) (i : TypeInfo) (z : Value) (size bytes : Nat) (ht : P.underlying t = some (.slice e)) (hi : P.info? e = some i) (hz : i.zero = some z)
    (hsize : i.size = size) (hby : i.bytes = bytes) (hzs : z.cells.size = size) (hsz : 0 < size)
    (H : Nat) (hs : a.eval s = .slice (some ⟨H, 0, none⟩) 0 0) (hown : W.ownsRow base e size (.slice (some ⟨H, 0, none⟩) 0 0) 0 [])
    (b2 n : Nat) (u : Value) (xs : List Value) (hx : a.eval x = u) (hrow : W.ownsRow b2 e size u n xs) (h1 : ∀ y ∈ xs, y.oneCell' = true)
    (h63 : n ≤ maxLen) (hbytes : n * bytes ≤ 140737488355328) (hbase : base ≤ W.heap.size)
    (h : ∀ A c w1, w1.ownsRow base e size (.slice A n c) n xs → W.grownBy w1 (some H) → wpList P ops Q rest (a.put o.dst (.slice A n c)) w1) : wpList P ops Q (o :: rest) a W := by
  have hrun : ∃ v1 w1, (Builtin.append_ #[t, t] o.type #[.slice (some ⟨H, 0, none⟩) 0 0, u]).run P W = .ok v1 w1 ∧ w1.ownsRow base e size v1 n xs ∧ W.grownBy w1 (some H) := by
    rcases hrow.2 with ⟨rfl, rfl⟩ | ⟨g, cap, cur, rfl, hb, hh, hc, hm, hcs, hct⟩
    · have hx0 : xs = [] := List.eq_nil_of_length_eq_zero (by simpa using hrow.1)
      subst hx0
      refine ⟨.slice (some ⟨H, 0, none⟩) 0 0, W, ?_, hown, World.grownBy.refl W _⟩
      simp [Builtin.append_, run_underlying ht, sizeOf, typeInfo, hi, Builtin.lenOf, Builtin.firstCells, storeCells]
    · have hnews : ∀ j y, xs[j]? = some y → W.cell? ((⟨g, 0, none⟩ : Addr).add j) = some y := fun j y hj => by
        have hadd : (⟨g, 0, none⟩ : Addr).add j = ⟨g, j, none⟩ := by unfold Addr.add; split <;> simp_all
        rw [hadd, cell_of_row W g j cur e (0, 0) hh]
        have hjl : j < n * size := by
          rcases Nat.lt_or_ge j (n * size) with h | h
          · exact h
          · rw [List.getElem?_eq_none (by rw [hrow.1]; exact h)] at hj; cases hj
        rw [← hct, List.getElem?_take_of_lt hjl, Array.getElem?_toList] at hj
        exact hj
      obtain ⟨v1, w1, hr, h2, h3, _⟩ := run_append_own_at (P := P) W base t o.type e i z size bytes ht hi hz hsize hby hzs hsz _ 0 [] hown ⟨g, 0, none⟩ n cap xs hrow.1 hnews h1 (by simpa using h63) (by simpa using hbytes) hbase
      exact ⟨v1, w1, hr, by simpa using h2, h3⟩
  obtain ⟨v1, w1, hr, hown1, hg⟩ := hrun
  have hform : ∃ A c, v1 = .slice A n c := by
    rcases hown1.2 with ⟨rfl, rfl⟩ | ⟨g, cap, _, rfl, _⟩
    · exact ⟨_, _, rfl⟩
    · exact ⟨_, _, rfl⟩
  obtain ⟨A, c, rfl⟩ := hform
  refine wpList_plain hgd fun K hK => ?_
  unfold Oper.wp execOp
  simp only [ho, resolve, invoke, builtin, Sem.run_bind, Sem.run_pure, Result.andThen_ok, List.map_toArray, List.map_cons, List.map_nil, hs, hx, hr]
  exact hK _ _ (h A c w1 hown1 hg)
end
theorem own_none (W : World) (base : Nat) (e : TypeId) (size : Nat) (hb : base ≤ W.heap.size) : (W.alloc (.cells #[] e)).ownsRow base e size (.slice (some ⟨W.heap.size, 0, none⟩) 0 0) 0 [] :=
  ⟨by simp, .inr ⟨W.heap.size, 0, #[], rfl, hb, blk_new W _, Nat.le_refl _, by simp [maxLen], by simp, by simp⟩⟩

set_option maxHeartbeats 4000000 in
set_option maxRecDepth 100000 in
theorem list_calls (B p : Nat) (v : Value) (l : List It) (sq : Int) (w : World) (h : IsHeap B w p v l sq) (hl : l.length ≤ 1000) (ho : HeapPlain.H l) : Calls Try.prog 49 #[.pointer (some ⟨p, 0, none⟩)] w fun e w' =>
    ∃ vo os, e = .returned vo ∧ Row w' w.heap.size vo os ∧ os.Perm l ∧ os.Pairwise It.le ∧ Below w.heap.size w w' := by
  obtain ⟨now, hnow⟩ := top_of l
  have HNW := Aside0.mk hnow
  have HO0 := Aside0.mk ho
  have HL := Aside0.mk hl
  obtain ⟨j0, hj0, hz0, hz1, hz2⟩ := info_parts info88
  have HJ := Aside0.mk (And.intro hj0 (And.intro hz0 (And.intro hz1 hz2)))
  obtain ⟨A2, c2, rfl⟩ := own_slice h.row
  have k0 := Src.some_alloc ((blk_cell h.blk 0).trans rfl : w.cell? ⟨p, 0, none⟩ = some (.slice A2 l.length c2)) (.cells #[] 88)
  have HOE := Aside0.mk (own_none w w.heap.size 88 3 (Nat.le_refl _))
  have HR := Aside0.mk (World.ownsRow.alloc h.row (.cells #[] 88))
  have HLB := Aside0.mk (below_alloc (Below.refl w.heap.size w) (.cells #[] 88))
  clear hj0 hz0 hz1 hz2 h hl ho hnow
  go_enter Try.func49, Try.ntmps49
  go_wp2_with (at_builtin; refine lay_copy rfl _ _ 81 rfl w.heap.size 88 j0 _ 3 24 Try.underlying81 HJ.out.1 HJ.out.2.1 HJ.out.2.2.1 HJ.out.2.2.2 rfl (by omega) w.heap.size rfl HOE.out B l.length _ (cs3 l) rfl HR.out (cs3_one l) (by have := HL.out; unfold maxLen; omega) (by have := HL.out; omega) (by simp) ?_; intro A3 c3 w1 ho hg; have HO3 := Aside0.mk ho; have HL3 := Aside0.mk (HLB.out.grown hg (by simp) (fun k hk => by injection hk with hk; omega)); clear ho hg)
  have H2 := Aside0.mk (show IsHeap w.heap.size (w1.alloc (.cells #[.slice A3 l.length c3, .int .u64 0] 83)) w1.heap.size (.slice A3 l.length c3) l 0 from ⟨HL3.out.size, blk_new w1 _, World.ownsRow.alloc HO3.out _⟩)
  have HB2 := Aside0.mk (HL3.out.alloc HL3.out.size (.cells #[.slice A3 l.length c3, .int .u64 0] 83))
  clear k0
  generalize w1.heap.size = pc at H2 ⊢
  generalize w1.alloc (.cells #[.slice A3 l.length c3, .int .u64 0] 83) = w2 at H2 HB2 ⊢
  go_loopw [4] (fun vv wr => ∃ vo os v' l', vo = vv ∧ Woke w.heap.size pc w2.heap.size l (.slice A3 l.length c3) 0 now w2 vo os v' l' wr) (fun _ wr => lenAt wr pc)
  case atStart => exact ⟨_, [], _, l, rfl, Row.nil _ _, H2.out, HO0.out, List.Perm.refl _, List.Pairwise.nil, fun o ho => by simp at ho, fun o ho => by simp at ho, ne_nil _, Step.refl _ _ _ _⟩
  case round =>
    obtain ⟨vo, os, v', l', rfl, hw⟩ := hrel
    have HW := Aside0.mk hw
    have HLN := Aside0.mk (hw.len)
    obtain ⟨A, c, rfl⟩ := hw.heap.head
    have k0 : wr.cell? ⟨pc, 0, none⟩ = some (.slice A l'.length c) := (blk_cell hw.heap.blk 0).trans rfl
    clear hw
    rcases Nat.eq_zero_or_pos l'.length with h0 | h0
    · have q1 : decide ((0 : Int) < (l'.length : Int)) = false := decide_eq_false (by omega)
      have q1' : decide (0 < l'.length) = false := decide_eq_false (by omega)
      have HE := Aside0.mk (List.eq_nil_of_length_eq_zero h0)
      clear h0
      go_wp2
      go_ret
      exact ⟨_, os, rfl, own_weaken HW.out.out HB2.out.size, by have := HW.out.perm; rwa [HE.out, List.append_nil] at this, HW.out.sorted, HB2.out.trans HW.out.step.below⟩
    · have q1 : decide ((0 : Int) < (l'.length : Int)) = true := decide_eq_true (by omega)
      have q1' : decide (0 < l'.length) = true := decide_eq_true (by omega)
      obtain ⟨x, hx⟩ : ∃ x, g l' 0 = x := ⟨_, rfl⟩
      have HX := Aside0.mk hx
      have H00 := Aside0.mk h0
      have HXN := Aside0.mk (show x.t ≤ now from HNW.out x (HW.out.perm.subset (List.mem_append_right os (hx ▸ g_mem l' 0 h0))))
      have HWL := Aside0.mk (woke_lists HW.out.ord HW.out.perm HW.out.sorted HW.out.small HW.out.below h0 (by rw [hx]; exact HXN.out))
      rw [hx] at HWL
      have HLB := Aside0.mk (show l'.length ≤ 1000 ∧ os.length ≤ 1000 by have := HLN.out; have := HL.out; omega)
      clear hx
      go_wp2_with (first
        | (go_at_call 69; (with_reducible refine (remove_lit w.heap.size pc _ l' 0 x wr HW.out.heap H00.out HLB.out.1 HX.out).mono ?_); rintro e w3 ⟨rfl, v3, hR3, hS3⟩; have H3 := Aside0.mk (hR3.below (below_alloc (Below.refl _ _) (.cells #[.int .u64 x.t, .int .u64 x.s, .int .i64 x.d] 88))); have HO3' := Aside0.mk (row_step hS3 HW.out.out HW.out.ne (row_ne_heap HW.out.heap HW.out.out)); have HN3 := Aside0.mk (moved_step hS3 HW.out.ne HW.out.out); have HLT3 := Aside0.mk (own_lt hR3.row); have HS3 := Aside0.mk ((HW.out.step.trans hS3 H2.out.plt).of_below (below_alloc (Below.refl _ _) (.cells #[.int .u64 x.t, .int .u64 x.s, .int .i64 x.d] 88)) hR3.bsz); have HBS := Aside0.mk (show w2.heap.size ≤ w3.heap.size from Nat.le_trans HW.out.step.kept.1 hS3.kept.1); clear hR3 hS3 k0)
        | (at_builtin; refine wpList_append_lies _ rfl _ _ _ rfl w2.heap.size 88 j0 _ 3 24 Try.underlying81 HJ.out.1 HJ.out.2.1 HJ.out.2.2.1 HJ.out.2.2.2 rfl (by omega) vo os.length (cs3 os) rfl (World.ownsRow.alloc HO3'.out _) ⟨w3.heap.size, 0, none⟩ 1 1 [.int .u64 x.t, .int .u64 x.s, .int .i64 x.d] rfl rfl (World.news_of_block (cs := #[.int .u64 x.t, .int .u64 x.s, .int .i64 x.d]) (t := 88) (fr := (0, 0)) (heap_alloc_new w3 _)) (by simp [Value.oneCell']) (by omega) (by have := HLB.out.2; unfold maxLen; omega) (by have := HLB.out.2; omega) (by have := HBS.out; simp; omega) (w3.heap.size + 1) (by simp) ?_; intro gg cap5 w5 hown1 hgrow hat hlt; have HO5 := Aside0.mk hown1; have HG5 := Aside0.mk hgrow; have HA5 := Aside0.mk hat; clear hown1 hgrow hat hlt))
      have hne : vo.ownBlock ≠ some pc := row_ne_heap HW.out.heap HW.out.out
      have hR5 := H3.out.grown HG5.out HN3.out hne
      have hrow : Row w5 w2.heap.size (.slice (some ⟨gg, 0, none⟩) (os.length + 1) cap5) (os ++ [x]) := by
        have := HO5.out
        unfold Row
        rw [List.length_append, cs3_append]
        exact this
      have hnr : NeRow (.slice (some ⟨gg, 0, none⟩) (os.length + 1) cap5) v3 := fun k hk hk' => by
        have hk2 : gg = k := by injection hk
        subst hk2
        rcases HA5.out with h | h
        · exact HN3.out gg h hk'
        · have := HLT3.out gg hk'; omega
      obtain ⟨p1, p2, p3, p4, p5, p6⟩ := HWL.out
      have hw5 : Woke w.heap.size pc w2.heap.size l (.slice A3 l.length c3) 0 now w2 (.slice (some ⟨gg, 0, none⟩) (os.length + 1) cap5) (os ++ [x]) v3 (rm l' 0) w5 :=
        ⟨hrow, hR5, p1, p2, p3, p4, p5, hnr, HS3.out.grown HG5.out H2.out.bsz (fun k hk => (own_base HO3'.out k hk))⟩
      exact ⟨⟨_, os ++ [x], v3, rm l' 0, rfl, hw5⟩, by rw [lenAt_of hR5, lenAt_of HW.out.heap]; omega⟩
end Go.Proofs.Ythlllcmffgdcmab.Heap

import Derived.Test.YthlllcmffgdcmabHeap8
namespace Go.Proofs.Ythlllcmffgdcmab.Heap
open Go.RowKit Go.Proofs.YthlllcmffgdcmabW.PrintWords Go.Proofs.YthlllcmffgdcmabW.PrintLast Go.Proofs.YthlllcmffgdcmabW.PrintMore Go.Proofs.Ythlllcmffgdcmab.HeapPlain
set_option linter.unusedVariables false
set_option linter.unusedSimpArgs false

/-- How many items a heap in memory has. -/
def lenAt (w : World) (p : Nat) : Nat := match w.cell? ⟨p, 0, none⟩ with | some (.slice _ n _) => n | _ => 0
theorem lenAt_of {B : Nat} {w : World} {p : Nat} {v : Value} {l : List It} {sq : Int} (h : IsHeap B w p v l sq) : lenAt w p = l.length := by
  obtain ⟨A, c, rfl⟩ := h.head
  have k0 : w.cell? ⟨p, 0, none⟩ = some (.slice A l.length c) := (blk_cell h.blk 0).trans rfl
  unfold lenAt
  rw [k0]

theorem remove_lit (B p : Nat) (v : Value) (l : List It) (sq : Int) (x : It) (w : World) (h : IsHeap B w p v l sq) (hi : 0 < l.length) (hl : l.length ≤ 1000) (hx : g l 0 = x) : Calls Try.prog 69 #[.pointer (some ⟨p, 0, none⟩), .int .i64 0] w fun e w' =>
    e = .returned (.agg #[.int .u64 x.t, .int .u64 x.s, .int .i64 x.d]) ∧ ∃ v', IsHeap B w' p v' (rm l 0) sq ∧ Step B p v v' w w' :=
  (remove_calls B p v l sq 0 w h hi hl).mono fun e w' ⟨h1, h2⟩ => ⟨by rw [h1, hx]; rfl, h2⟩

theorem moved_step {w : World} {B p : Nat} {v v' vo : Value} {w' : World} (h : Step B p v v' w w') (hne : NeRow vo v) {Bo n size : Nat} {e : TypeId} {xs : List Value} (ho : w.ownsRow Bo e size vo n xs) : NeRow vo v' := fun k hk hk' => by
  rcases h.moved k hk' with h1 | h1
  · exact hne k hk h1
  · have := own_lt ho k hk; omega
theorem row_step {w w' : World} {B p : Nat} {v v' vo : Value} (h : Step B p v v' w w') {Bo : Nat} {os : List It} (ho : Row w Bo vo os) (hne : NeRow vo v) (hp : vo.ownBlock ≠ some p) : Row w' Bo vo os := by
  obtain ⟨h1, h2⟩ := ho
  refine ⟨h1, ?_⟩
  rcases h2 with h2 | ⟨g', cap, cur, rfl, hb, hh, r⟩
  · exact .inl h2
  · exact .inr ⟨g', cap, cur, rfl, hb, blk_kept hh h.kept (by rintro (h | h); exact hp (by rw [← h]; rfl); exact hne g' rfl h), r⟩
theorem IsHeap.grown {B : Nat} {w w' : World} {p : Nat} {v vo : Value} {l : List It} {sq : Int} (h : IsHeap B w p v l sq) (hg : w.grownBy w' vo.ownBlock) (hne : NeRow vo v) (hp : vo.ownBlock ≠ some p) : IsHeap B w' p v l sq :=
  ⟨h.ge, blk_grown h.blk hg (fun e => hp e.symm), own_other h.row hg (ne_other hne)⟩
theorem row_ne_heap {B : Nat} {w : World} {p : Nat} {v vo : Value} {l : List It} {sq : Int} (h : IsHeap B w p v l sq) {Bo n size : Nat} {xs : List Value} (ho : w.ownsRow Bo 88 size vo n xs) : vo.ownBlock ≠ some p := Ne.symm (own_ne ho h.blk (by decide))

/-- What a run of wakings has done. -/
structure Woke (B p Bo : Nat) (l : List It) (v : Value) (sq now : Int) (w : World) (vo : Value) (os : List It) (v' : Value) (l' : List It) (w' : World) : Prop where
  out : Row w' Bo vo os
  heap : IsHeap B w' p v' l' sq
  ord : HeapPlain.H l'
  perm : (os ++ l').Perm l
  sorted : os.Pairwise It.le
  small : ∀ o ∈ os, o.t ≤ now
  below : ∀ o ∈ os, ∀ y ∈ l', o.le y
  ne : NeRow vo v'
  step : Step B p v v' w w'
theorem Woke.len {B p Bo : Nat} {l : List It} {v : Value} {sq now : Int} {w : World} {vo : Value} {os : List It} {v' : Value} {l' : List It} {w' : World} (h : Woke B p Bo l v sq now w vo os v' l' w') : os.length + l'.length = l.length := by
  have := h.perm.length_eq
  rwa [List.length_append] at this
theorem woke_lists {l os l' : List It} {now : Int} (ho : HeapPlain.H l') (hp : (os ++ l').Perm l) (hs : os.Pairwise It.le) (hsm : ∀ o ∈ os, o.t ≤ now) (hb : ∀ o ∈ os, ∀ y ∈ l', o.le y) (hl : 0 < l'.length) (hx : (HeapPlain.g l' 0).t ≤ now) :
    HeapPlain.H (rm l' 0) ∧ ((os ++ [HeapPlain.g l' 0]) ++ rm l' 0).Perm l ∧ (os ++ [HeapPlain.g l' 0]).Pairwise It.le ∧ (∀ o ∈ os ++ [HeapPlain.g l' 0], o.t ≤ now) ∧ (∀ o ∈ os ++ [HeapPlain.g l' 0], ∀ y ∈ rm l' 0, o.le y) ∧ (rm l' 0).length + 1 = l'.length := by
  obtain ⟨r1, r2, r3⟩ := rm_spec l' 0 hl ho
  have hmem : ∀ y ∈ rm l' 0, y ∈ l' := fun y hy => r2.symm.subset (List.mem_cons_of_mem _ hy)
  have hg := g_mem l' 0 hl
  refine ⟨r1, ?_, ?_, ?_, ?_, by omega⟩
  · rw [List.append_assoc]
    exact (List.Perm.append_left os r2.symm).trans hp
  · rw [List.pairwise_append]
    exact ⟨hs, List.pairwise_singleton _ _, fun a ha b hb' => by rw [List.mem_singleton.1 hb']; exact hb a ha _ hg⟩
  · intro o ho'
    rcases List.mem_append.1 ho' with h | h
    · exact hsm o h
    · rw [List.mem_singleton.1 h]; exact hx
  · intro o ho' y hy
    rcases List.mem_append.1 ho' with h | h
    · exact hb o h y (hmem y hy)
    · rw [List.mem_singleton.1 h]; exact root_le_mem l' ho y (hmem y hy)
theorem woke_end {l' : List It} {now : Int} (ho : HeapPlain.H l') (hx : l'.length = 0 ∨ now < (HeapPlain.g l' 0).t) : ∀ y ∈ l', now < y.t := by
  intro y hy
  rcases hx with h | h
  · rw [List.eq_nil_of_length_eq_zero h] at hy; cases hy
  · have := root_le_mem l' ho y hy
    unfold It.le at this
    omega
theorem Step.grown {B p : Nat} {v v' : Value} {a b c : World} (h : Step B p v v' a b) {r : Option Nat} (hg : b.grownBy c r) (hB : B ≤ a.heap.size) (hr : ∀ k, r = some k → a.heap.size ≤ k) : Step B p v v' a c :=
  ⟨h.below.grown hg (Nat.le_trans hB h.kept.1) (fun k hk => Nat.le_trans hB (hr k hk)), Kept.of_grown hg h.kept (fun k hk => .inr (hr k hk)), h.moved⟩
theorem woke_le {t now : Int} (h : t ≤ now) : decide (t ≤ now) = true := decide_eq_true h

set_option maxHeartbeats 4000000 in
set_option maxRecDepth 100000 in
theorem wake_calls (B p : Nat) (v : Value) (l : List It) (sq now : Int) (w : World) (h : IsHeap B w p v l sq) (hl : l.length ≤ 1000) (ho : HeapPlain.H l) : Calls Try.prog 42 #[.pointer (some ⟨p, 0, none⟩), .int .u64 now] w fun e w' =>
    ∃ vo os v' l', e = .returned vo ∧ Woke B p w.heap.size l v sq now w vo os v' l' w' ∧ (∀ y ∈ l', now < y.t) := by
  have H0 := Aside0.mk h
  have HO0 := Aside0.mk ho
  have HL := Aside0.mk hl
  clear h hl ho
  go_enter Try.func42, Try.ntmps42
  go_wp2
  go_loopw [5] (fun vv wr => ∃ vo os v' l', vo = vv ∧ Woke B p w.heap.size l v sq now w vo os v' l' wr) (fun _ wr => lenAt wr p)
  case atStart => exact ⟨_, [], v, l, rfl, Row.nil _ _, H0.out, HO0.out, List.Perm.refl _, List.Pairwise.nil, fun o ho => by simp at ho, fun o ho => by simp at ho, ne_nil _, Step.refl _ _ _ _⟩
  case round =>
    obtain ⟨vo, os, v', l', rfl, hw⟩ := hrel
    have HW := Aside0.mk hw
    have HLN := Aside0.mk (hw.len)
    obtain ⟨A, c, rfl⟩ := hw.heap.head
    have k0 : wr.cell? ⟨p, 0, none⟩ = some (.slice A l'.length c) := (blk_cell hw.heap.blk 0).trans rfl
    clear hw
    rcases Nat.eq_zero_or_pos l'.length with h0 | h0
    · have q1 : decide ((0 : Int) < (l'.length : Int)) = false := decide_eq_false (by omega)
      have q1' : decide (0 < l'.length) = false := decide_eq_false (by omega)
      have HE := Aside0.mk (woke_end (now := now) HW.out.ord (.inl h0))
      clear h0
      go_wp2
      go_ret
      exact ⟨_, os, _, l', rfl, HW.out, HE.out⟩
    · have q1 : decide ((0 : Int) < (l'.length : Int)) = true := decide_eq_true (by omega)
      have q1' : decide (0 < l'.length) = true := decide_eq_true (by omega)
      obtain ⟨gr, cap, e, _⟩ := HW.out.heap.row.form h0
      injection e with e el ec
      subst e
      clear el
      obtain ⟨i0, i1, i2⟩ := HW.out.heap.cells h0
      have i0' : wr.cell? ⟨gr, 0, none⟩ = some (.int .u64 (g l' 0).t) := by simpa using i0
      have b2 : (0 : Int) < (l'.length : Int) := by omega
      obtain ⟨x, hx⟩ : ∃ x, g l' 0 = x := ⟨_, rfl⟩
      rw [hx] at i0'
      have HX := Aside0.mk hx
      have H00 := Aside0.mk h0
      clear hx i0 i1 i2
      by_cases ht : x.t ≤ now
      · have q2 : decide (x.t ≤ now) = true := decide_eq_true ht
        have HWL := Aside0.mk (woke_lists HW.out.ord HW.out.perm HW.out.sorted HW.out.small HW.out.below H00.out (by rw [HX.out]; exact ht))
        rw [HX.out] at HWL
        obtain ⟨j0, hj0, hz0, hz1, hz2⟩ := info_parts info88
        have HJ := Aside0.mk (And.intro hj0 (And.intro hz0 (And.intro hz1 hz2)))
        have HLB := Aside0.mk (show l'.length ≤ 1000 ∧ os.length ≤ 1000 by have := HLN.out; have := HL.out; omega)
        clear ht hj0 hz0 hz1 hz2
        go_wp2_with (first
          | (go_at_call 69; (with_reducible refine (remove_lit B p _ l' sq x wr HW.out.heap H00.out HLB.out.1 HX.out).mono ?_); rintro e w3 ⟨rfl, v3, hR3, hS3⟩; have H3 := Aside0.mk (hR3.below (below_alloc (Below.refl _ _) (.cells #[.int .u64 x.t, .int .u64 x.s, .int .i64 x.d] 88))); have HO3 := Aside0.mk (row_step hS3 HW.out.out HW.out.ne (row_ne_heap HW.out.heap HW.out.out)); have HN3 := Aside0.mk (moved_step hS3 HW.out.ne HW.out.out); have HLT3 := Aside0.mk (own_lt hR3.row); have HS3 := Aside0.mk ((HW.out.step.trans hS3 H0.out.plt).of_below (below_alloc (Below.refl _ _) (.cells #[.int .u64 x.t, .int .u64 x.s, .int .i64 x.d] 88)) hR3.bsz); have HBS := Aside0.mk (show w.heap.size ≤ w3.heap.size from Nat.le_trans HW.out.step.kept.1 hS3.kept.1); clear hR3 hS3 i0' k0)
          | (at_builtin; refine wpList_append_lies _ rfl _ _ _ rfl w.heap.size 88 j0 _ 3 24 Try.underlying81 HJ.out.1 HJ.out.2.1 HJ.out.2.2.1 HJ.out.2.2.2 rfl (by omega) vo os.length (cs3 os) rfl (World.ownsRow.alloc HO3.out _) ⟨w3.heap.size, 0, none⟩ 1 1 [.int .u64 x.t, .int .u64 x.s, .int .i64 x.d] rfl rfl (World.news_of_block (cs := #[.int .u64 x.t, .int .u64 x.s, .int .i64 x.d]) (t := 88) (fr := (0, 0)) (heap_alloc_new w3 _)) (by simp [Value.oneCell']) (by omega) (by have := HLB.out.2; unfold maxLen; omega) (by have := HLB.out.2; omega) (by have := HBS.out; simp; omega) (w3.heap.size + 1) (by simp) ?_; intro gg cap5 w5 hown1 hgrow hat hlt; have HO5 := Aside0.mk hown1; have HG5 := Aside0.mk hgrow; have HA5 := Aside0.mk hat; clear hown1 hgrow hat hlt))
        have hne : vo.ownBlock ≠ some p := row_ne_heap HW.out.heap HW.out.out
        have hR5 := H3.out.grown HG5.out HN3.out hne
        have hrow : Row w5 w.heap.size (.slice (some ⟨gg, 0, none⟩) (os.length + 1) cap5) (os ++ [x]) := by
          have := HO5.out
          unfold Row
          rw [List.length_append, cs3_append]
          exact this
        have hnr : NeRow (.slice (some ⟨gg, 0, none⟩) (os.length + 1) cap5) v3 := fun k hk hk' => by
          have hk2 : gg = k := by injection hk
          subst hk2
          rcases HA5.out with h | h
          · exact HN3.out gg h hk'
          · have := HLT3.out gg hk'; omega
        obtain ⟨p1, p2, p3, p4, p5, p6⟩ := HWL.out
        have hw5 : Woke B p w.heap.size l v sq now w (.slice (some ⟨gg, 0, none⟩) (os.length + 1) cap5) (os ++ [x]) v3 (rm l' 0) w5 :=
          ⟨hrow, hR5, p1, p2, p3, p4, p5, hnr, HS3.out.grown HG5.out H0.out.bsz (own_base HO3.out)⟩
        exact ⟨⟨_, os ++ [x], v3, rm l' 0, rfl, hw5⟩, by rw [lenAt_of hR5, lenAt_of HW.out.heap]; omega⟩
      · have q2 : decide (x.t ≤ now) = false := decide_eq_false ht
        have HE := Aside0.mk (woke_end (now := now) HW.out.ord (.inr (by rw [HX.out]; omega)))
        clear ht
        go_wp2
        go_ret
        exact ⟨_, os, _, l', rfl, HW.out, HE.out⟩
end Go.Proofs.Ythlllcmffgdcmab.Heap

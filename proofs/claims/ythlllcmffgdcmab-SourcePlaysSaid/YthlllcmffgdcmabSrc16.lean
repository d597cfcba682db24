import Derived.Test.YthlllcmffgdcmabSrc15
namespace Go.Proofs.Ythlllcmffgdcmab.Src
open Go.RowKit Go.Proofs.YthlllcmffgdcmabW.PrintWords Go.Proofs.YthlllcmffgdcmabW.PrintLast Go.Proofs.YthlllcmffgdcmabW.PrintMore
set_option linter.unusedVariables false
set_option linter.unusedSimpArgs false

/-- What a generator of draws holds in some blocks: nothing else touches it. -/
structure Gen (F : Nat → Prop) (J : World → Prop) : Prop where
  st : ∀ a b, J a → (∀ i, F i → b.heap[i]? = a.heap[i]?) → J b
  typ : ∀ W, J W → ∀ i, F i → ∃ cs t, W.heap[i]? = some (.cells cs t (0, 0)) ∧ t ≠ 3 ∧ t ≠ 27 ∧ t ≠ 144
theorem Gen.lt {F : Nat → Prop} {J : World → Prop} (h : Gen F J) {w : World} (hj : J w) {i : Nat} (hi : F i) : i < w.heap.size := by
  obtain ⟨cs, t, hc, _⟩ := h.typ w hj i hi
  exact blk_lt hc
theorem Gen.tame {F : Nat → Prop} {J : World → Prop} (h : Gen F J) {w w' : World} (hj : J w) (ht : Tame w w') : J w' := h.st w w' hj fun i hi => by
  obtain ⟨cs, t, hc, h3, h27, _⟩ := h.typ w hj i hi
  rw [ht i cs t hc h3 h27, hc]
theorem Gen.below {F : Nat → Prop} {J : World → Prop} (h : Gen F J) {w w' : World} (hj : J w) (hb : Below w.heap.size w w') : J w' := h.st w w' hj fun i hi => hb.block i (h.lt hj hi)
theorem Gen.kept {F : Nat → Prop} {J : World → Prop} (h : Gen F J) {w w' : World} {S : Nat → Prop} (hj : J w) (hk : Kept w w' S) (hS : ∀ i, F i → ¬ S i) : J w' := h.st w w' hj fun i hi => hk.2 i (h.lt hj hi) (hS i hi)
/-- Apart from a row. -/
def Off (F : Nat → Prop) (vt : Value) : Prop := ∀ i, F i → vt.ownBlock ≠ some i

set_option maxHeartbeats 1000000 in
theorem gdraw21_ok (B s K L o : Nat) (F : Nat → Prop) (J J' : World → Prop) (hG : Gen F J) (hG' : Gen F J') (hFo : F o) (vt : Value) (nt : Nat) (rs : List Value) (kind n m v : Int) (w : World) (hJ : J w) (hS : Srce B w s K L o vt nt rs .nilFunc) (hoff : Off F vt) (hB : B ≤ w.heap.size) (hoB : B ≤ o) (hK : ∀ caps W, (callFunc K caps).run Try.prog W = .ok (.enter K caps) W)
    (hm : (if n < 1 then 1 else n) = m) (hv0 : 0 ≤ v) (hv1 : v ≤ 9223372036854775807) (hnt : nt ≤ 1000)
    (hrunK : ∀ W, J W → B ≤ W.heap.size → Calls Try.prog K #[.pointer (some ⟨o, 0, none⟩), .int .i64 kind, .int .i64 m] W fun e w' => e = .returned (.int .u64 v) ∧ Reach o W w' ∧ J' w') :
    Calls Try.prog 21 #[.pointer (some ⟨s, 0, none⟩), .int .i64 kind, .int .i64 n] w fun e w' =>
      e = .returned (.tuple #[.int .i64 v, .int .i64 0, .agg zU]) ∧ ∃ vt', J' w' ∧ Srce B w' s K L o vt' (nt + 1) (rs ++ [.int .i64 kind, .int .u64 v]) .nilFunc ∧ Off F vt' ∧ Kept w w' (fun k => k = o ∨ k = s ∨ vt.ownBlock = some k) ∧ Below B w w' := by
  have hn1 := dW_size w s kind n
  have hsW := blk_lt hS.blk
  have hvW : ∀ k, vt.ownBlock = some k → k < w.heap.size := own_lt hS.row
  have hFW : ∀ i, F i → i < w.heap.size := fun i hi => hG.lt hJ hi
  have hFs : ∀ i, F i → i ≠ s := fun i hi e => by
    subst e
    obtain ⟨cs, t, hc, _, _, h144⟩ := hG.typ w hJ i hi
    rw [hS.blk] at hc
    injection hc with hc
    injection hc with _ hc
    exact h144 hc.symm
  -- the run inside the guard
  have hrun : ∀ W, Below (dW w s kind n).heap.size (dW w s kind n) W → Calls Try.prog 61 (dCaps w) W fun e w' => e = .returned (.tuple #[]) ∧ Since (dW w s kind n).heap.size W w' ∧
      (∃ vt', J' w' ∧ Srce B w' s K L o vt' (nt + 1) (rs ++ [.int .i64 kind, .int .u64 v]) .nilFunc ∧ Off F vt' ∧ Kept w w' (fun k => k = o ∨ k = s ∨ vt.ownBlock = some k) ∧ Below B (dW w s kind n) w' ∧ w'.heap[w.heap.size + 1 + 1 + 1]? = some (.cells zU 27 (0, 0)) ∧ w'.heap[w.heap.size + 1 + 1 + 1 + 1]? = some (.cells #[.int .i64 v] 3 (0, 0))) := by
    intro W hW
    have hwW : Below w.heap.size w W := (dW_below w s kind n).trans (hW.mono (dW_below w s kind n).size)
    have hJ1 : J W := hG.below hJ hwW
    have hS1 : Srce B W s K L o vt nt rs .nilFunc := hS.below hwW
    have a0 := blk_below (dW_0 w s kind n) hW
    have a1 := blk_below (dW_1 w s kind n) hW
    have a2 := blk_below (dW_2 w s kind n) hW
    have a3 := blk_below (dW_3 w s kind n) hW
    have a4 := blk_below (dW_4 w s kind n) hW
    have hd := draw_reach B s K L o vt nt rs kind n m v W J' hS1 (Ne.symm (hFs o hFo)) (hoff o hFo) hK hm hv0 hv1 hnt (Nat.le_trans hB hwW.size) (hrunK W hJ1 (Nat.le_trans hB hwW.size))
    have hr := run_ok s w.heap.size (w.heap.size + 1) (w.heap.size + 1 + 1) (w.heap.size + 1 + 1 + 1 + 1) kind n v 0 W (fun w' => ∃ vt', J' w' ∧ Srce B w' s K L o vt' (nt + 1) (rs ++ [.int .i64 kind, .int .u64 v]) .nilFunc ∧ Off F vt' ∧ Kept W w' (fun k => k = o ∨ k = s ∨ vt.ownBlock = some k) ∧ Below B W w' ∧ Since (dW w s kind n).heap.size W w' ∧ w'.heap[w.heap.size + 1 + 1 + 1]? = some (.cells zU 27 (0, 0))) a0 a1 a2
      (hd.mono fun e w' ⟨h1, w1, vt', ht, hJ2, hS2, hk2, hat, hb2⟩ => by
        have keep : ∀ (g : Nat) (cs : Array Value) (t : TypeId), W.heap[g]? = some (Obj.cells cs t (0, 0)) → w.heap.size ≤ g → w'.heap[g]? = some (Obj.cells cs t (0, 0)) := fun g cs t hg hge =>
          blk_kept ((ht.block g (by have := hFW o hFo; omega) (blk_lt hg)).trans hg) hk2 (fun hh => hh.elim (by omega) (fun h => by have := hvW g h; omega))
        refine ⟨h1, ⟨vt', hG'.kept hJ2 hk2 (fun i hi hh => hh.elim (hFs i hi) (hoff i hi)), hS2, fun i hi e => ?_, (kept_reach ht).then_ hk2 (fun k hk => .inl (.inr hk)), (ht.below hoB (Nat.le_trans hB hwW.size)).trans hb2, ⟨Nat.le_trans ht.size hk2.1, fun i hi hlt => ?_⟩, keep _ _ _ a3 (by omega)⟩, keep _ _ _ a4 (by omega)⟩
        · rcases hat i e with h | h
          · exact hoff i hi h
          · have h1 := ht.size; have h2 := hwW.size; have h3 := hFW i hi; omega
        · refine (hk2.2 i (Nat.lt_of_lt_of_le hlt ht.size) ?_).trans (ht.block i (by have := hFW o hFo; omega) hlt)
          rintro (h | h)
          · omega
          · have := hvW i h; omega)
    refine hr.mono fun e w' ⟨h1, w1, ⟨vt', hJ2, hS2, hn2, hk3, hb2, hs2, h3⟩, h4, hw⟩ => ⟨h1, ?_, vt', ?_⟩
    · rw [hw]
      exact ⟨Nat.le_trans hs2.1 (by simp [World.setCell]), fun i hi hlt => (Below.heap_setCell w1 _ _ i (by simp; omega)).trans (hs2.2 i hi hlt)⟩
    · have ht : Tame w1 w' := by rw [hw]; exact (Tame.refl w1).set h4 (.inl rfl) 0 _
      refine ⟨hG'.tame hJ2 ht, hS2.tame ht, hn2, ?_, ?_, ?_, ?_⟩
      · rw [hw]
        exact ((Kept.of_below hwW _).then_ hk3 (fun k hk => .inl hk)).setCell (.inr (by simp; omega)) _
      · rw [hw]
        exact ((hW.mono (Nat.le_trans hB (dW_below w s kind n).size)).trans hb2).setCell (by simp; omega) _
      · rw [hw]; exact blk_far h3 (by simp) _
      · rw [hw]; simpa using blk_set h4 0 (.int .i64 v)
  have hg := guard_well 61 (dCaps w) (callFunc61 _) (dW w s kind n) _ hrun
  have hd := draw21 s kind n v 0 0 0 0 0 0 w (fun w' => ∃ vt', J' w' ∧ Srce B w' s K L o vt' (nt + 1) (rs ++ [.int .i64 kind, .int .u64 v]) .nilFunc ∧ Off F vt' ∧ Kept w w' (fun k => k = o ∨ k = s ∨ vt.ownBlock = some k) ∧ Below B (dW w s kind n) w')
    (hg.mono fun e w' ⟨h1, w1, ⟨vt', hJ2, hS2, hn2, hk3, hb2, h3, h4⟩, ht, hb⟩ => ⟨h1, ⟨vt', hG'.tame hJ2 ht, hS2.tame ht, hn2, hk3.then_ (kept_since hb) (fun k hk => .inr (by omega)), hb2.trans (hb.mono (Nat.le_trans hB (dW_below w s kind n).size))⟩, (hb.block _ (by omega)).trans h3, (hb.block _ (by omega)).trans h4⟩)
  exact hd.mono fun e w' ⟨h1, w1, ⟨vt', hJ2, hS2, hn2, hk3, hb2⟩, ht, hb⟩ => ⟨h1, vt', hG'.tame hJ2 ht, hS2.tame ht, hn2, hk3.then_ (kept_since hb) (fun k hk => .inr hk), (((dW_below w s kind n).mono hB).trans hb2).trans (hb.mono hB)⟩

set_option maxHeartbeats 1000000 in
theorem gdraw21_dry (B s K L o : Nat) (J : World → Prop) (hst : ∀ a b, J a → Below a.heap.size a b → J b) (vt : Value) (nt : Nat) (rs : List Value) (kind n m : Int) (see : Value) (w : World) (hJ : J w) (hS : Srce B w s K L o vt nt rs see) (hK : ∀ caps W, (callFunc K caps).run Try.prog W = .ok (.enter K caps) W)
    (hm : (if n < 1 then 1 else n) = m)
    (hrunK : ∀ W, J W → Calls Try.prog K #[.pointer (some ⟨o, 0, none⟩), .int .i64 kind, .int .i64 m] W fun e w' => e = .panicked [{ v := dryV, recovered := false }] ∧ Below W.heap.size W w') :
    Calls Try.prog 21 #[.pointer (some ⟨s, 0, none⟩), .int .i64 kind, .int .i64 n] w fun e w' =>
      e = .returned (.tuple #[.int .i64 0, .int .i64 1, .agg zU]) ∧ Below w.heap.size w w' := by
  have hn1 := dW_size w s kind n
  have hrun : ∀ W, Below (dW w s kind n).heap.size (dW w s kind n) W → Calls Try.prog 61 (dCaps w) W fun e w' => e = .panicked [{ v := dryV, recovered := false }] ∧ Since (dW w s kind n).heap.size W w' ∧
      (Below w.heap.size w w' ∧ w'.heap[w.heap.size + 1 + 1 + 1]? = some (.cells zU 27 (0, 0)) ∧ w'.heap[w.heap.size + 1 + 1 + 1 + 1]? = some (.cells #[.int .i64 0] 3 (0, 0))) := by
    intro W hW
    have hwW : Below w.heap.size w W := (dW_below w s kind n).trans (hW.mono (dW_below w s kind n).size)
    have a0 := blk_below (dW_0 w s kind n) hW
    have a1 := blk_below (dW_1 w s kind n) hW
    have a2 := blk_below (dW_2 w s kind n) hW
    have a3 := blk_below (dW_3 w s kind n) hW
    have a4 := blk_below (dW_4 w s kind n) hW
    have hd := draw_panics B s K L o vt nt rs kind n m (dryV) see W (fun w' => Below W.heap.size W w') (hS.below hwW) hK hm (hrunK W (hst _ _ hJ hwW))
    have hr := run_panics s w.heap.size (w.heap.size + 1) (w.heap.size + 1 + 1) (w.heap.size + 1 + 1 + 1 + 1) kind n (dryV) W _ a0 a1 a2 hd
    exact hr.mono fun e w' ⟨h1, hb⟩ => ⟨h1, ⟨hb.size, fun i _ h2 => hb.block i h2⟩, below_then hwW hwW.size hb, blk_below a3 hb, blk_below a4 hb⟩
  have hg := guard_dry 61 (dCaps w) (callFunc61 _) (dW w s kind n) _ hrun
  have hd := draw21 s kind n 0 1 0 0 0 0 0 w (fun w' => Below w.heap.size w w')
    (hg.mono fun e w' ⟨h1, w1, ⟨hb2, h3, h4⟩, ht, hb⟩ => ⟨h1, hb2.trans (hb.mono (dW_below w s kind n).size), (hb.block _ (by omega)).trans h3, (hb.block _ (by omega)).trans h4⟩)
  exact hd.mono fun e w' ⟨h1, w1, hb2, ht, hb⟩ => ⟨h1, hb2.trans hb⟩

set_option maxHeartbeats 1000000 in
theorem gdraw21_un (B s K L o : Nat) (J : World → Prop) (hst : ∀ a b, J a → Below a.heap.size a b → J b) (vt : Value) (nt : Nat) (rs : List Value) (kind n m : Int) (a b c k x : Int) (see : Value) (w : World) (hJ : J w) (hS : Srce B w s K L o vt nt rs see) (hK : ∀ caps W, (callFunc K caps).run Try.prog W = .ok (.enter K caps) W)
    (hm : (if n < 1 then 1 else n) = m)
    (hrunK : ∀ W, J W → Calls Try.prog K #[.pointer (some ⟨o, 0, none⟩), .int .i64 kind, .int .i64 m] W fun e w' => e = .panicked [{ v := unV a b c k x, recovered := false }] ∧ Below W.heap.size W w') :
    Calls Try.prog 21 #[.pointer (some ⟨s, 0, none⟩), .int .i64 kind, .int .i64 n] w fun e w' =>
      e = .returned (.tuple #[.int .i64 0, .int .i64 2, .agg #[.int .i64 a, .int .i64 b, .int .i64 c, .int .i64 k, .int .u64 x]]) ∧ Below w.heap.size w w' := by
  have hn1 := dW_size w s kind n
  have hrun : ∀ W, Below (dW w s kind n).heap.size (dW w s kind n) W → Calls Try.prog 61 (dCaps w) W fun e w' => e = .panicked [{ v := unV a b c k x, recovered := false }] ∧ Since (dW w s kind n).heap.size W w' ∧
      (Below w.heap.size w w' ∧ w'.heap[w.heap.size + 1 + 1 + 1]? = some (.cells zU 27 (0, 0)) ∧ w'.heap[w.heap.size + 1 + 1 + 1 + 1]? = some (.cells #[.int .i64 0] 3 (0, 0))) := by
    intro W hW
    have hwW : Below w.heap.size w W := (dW_below w s kind n).trans (hW.mono (dW_below w s kind n).size)
    have a0 := blk_below (dW_0 w s kind n) hW
    have a1 := blk_below (dW_1 w s kind n) hW
    have a2 := blk_below (dW_2 w s kind n) hW
    have a3 := blk_below (dW_3 w s kind n) hW
    have a4 := blk_below (dW_4 w s kind n) hW
    have hd := draw_panics B s K L o vt nt rs kind n m (unV a b c k x) see W (fun w' => Below W.heap.size W w') (hS.below hwW) hK hm (hrunK W (hst _ _ hJ hwW))
    have hr := run_panics s w.heap.size (w.heap.size + 1) (w.heap.size + 1 + 1) (w.heap.size + 1 + 1 + 1 + 1) kind n (unV a b c k x) W _ a0 a1 a2 hd
    exact hr.mono fun e w' ⟨h1, hb⟩ => ⟨h1, ⟨hb.size, fun i _ h2 => hb.block i h2⟩, below_then hwW hwW.size hb, blk_below a3 hb, blk_below a4 hb⟩
  have hg := guard_un 61 (dCaps w) (callFunc61 _) a b c k x (dW w s kind n) _ hrun
  have hd := draw21 s kind n 0 2 a b c k x w (fun w' => Below w.heap.size w w')
    (hg.mono fun e w' ⟨h1, w1, ⟨hb2, h3, h4⟩, ht, hb⟩ => ⟨h1, hb2.trans (hb.mono (dW_below w s kind n).size), (hb.block _ (by omega)).trans h3, (hb.block _ (by omega)).trans h4⟩)
  exact hd.mono fun e w' ⟨h1, w1, hb2, ht, hb⟩ => ⟨h1, hb2.trans hb⟩
end Go.Proofs.Ythlllcmffgdcmab.Src

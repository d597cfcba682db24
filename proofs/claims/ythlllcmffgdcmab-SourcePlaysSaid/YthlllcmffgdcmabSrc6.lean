import Derived.Test.YthlllcmffgdcmabSrc5
namespace Go.Proofs.Ythlllcmffgdcmab.Src
open Go.RowKit Go.Proofs.YthlllcmffgdcmabW.PrintWords Go.Proofs.YthlllcmffgdcmabW.PrintLast Go.Proofs.YthlllcmffgdcmabW.PrintMore
set_option linter.unusedVariables false
set_option linter.unusedSimpArgs false

theorem own_tame {B : Nat} {w w' : World} {e : TypeId} {size n : Nat} {v : Value} {xs : List Value} (h : w.ownsRow B e size v n xs) (ht : Tame w w') (h3 : e ≠ 3) (h27 : e ≠ 27) : w'.ownsRow B e size v n xs := by
  obtain ⟨h1, h2⟩ := h
  refine ⟨h1, ?_⟩
  rcases h2 with h2 | ⟨g, cap, cur, rfl, hb, hh, r⟩
  · exact .inl h2
  · exact .inr ⟨g, cap, cur, rfl, hb, ht g _ _ hh h3 h27, r⟩
theorem own_kept {B : Nat} {w w' : World} {S : Nat → Prop} {e : TypeId} {size n : Nat} {v : Value} {xs : List Value} (h : w.ownsRow B e size v n xs) (hk : Kept w w' S) (hne : ∀ k, v.ownBlock = some k → ¬ S k) : w'.ownsRow B e size v n xs := by
  obtain ⟨h1, h2⟩ := h
  refine ⟨h1, ?_⟩
  rcases h2 with h2 | ⟨g, cap, cur, rfl, hb, hh, r⟩
  · exact .inl h2
  · exact .inr ⟨g, cap, cur, rfl, hb, blk_kept hh hk (hne g rfl), r⟩
theorem Orc.tame {B : Nat} {w w' : World} {o : Nat} {l : List Int} {k : Nat} {vl : Value} (h : Orc B w o l k vl) (ht : Tame w w') : Orc B w' o l k vl := ⟨h.ge, ht _ _ _ h.blk (by decide) (by decide), own_tame h.row ht (by decide) (by decide)⟩
theorem Orc.below {B : Nat} {w w' : World} {o : Nat} {l : List Int} {k : Nat} {vl : Value} (h : Orc B w o l k vl) (hb : Below w.heap.size w w') : Orc B w' o l k vl := ⟨h.ge, blk_below h.blk hb, pw_own_below h.row hb⟩
theorem Orc.kept {B : Nat} {w w' : World} {S : Nat → Prop} {o : Nat} {l : List Int} {k : Nat} {vl : Value} (h : Orc B w o l k vl) (hk : Kept w w' S) (ho : ¬ S o) (hv : ∀ k, vl.ownBlock = some k → ¬ S k) : Orc B w' o l k vl := ⟨h.ge, blk_kept h.blk hk ho, own_kept h.row hk hv⟩
theorem Srce.tame {B : Nat} {w w' : World} {s K L o : Nat} {vt : Value} {nt : Nat} {rs : List Value} {see : Value} (h : Srce B w s K L o vt nt rs see) (ht : Tame w w') : Srce B w' s K L o vt nt rs see := ⟨h.ge, ht _ _ _ h.blk (by decide) (by decide), own_tame h.row ht (by decide) (by decide)⟩
theorem Srce.below {B : Nat} {w w' : World} {s K L o : Nat} {vt : Value} {nt : Nat} {rs : List Value} {see : Value} (h : Srce B w s K L o vt nt rs see) (hb : Below w.heap.size w w') : Srce B w' s K L o vt nt rs see := ⟨h.ge, blk_below h.blk hb, pw_own_below h.row hb⟩
theorem blk_touch {w w' : World} {o g : Nat} {t t' : TypeId} {cs cs' : Array Value} (h : w.heap[g]? = some (.cells cs t (0, 0))) (ho : w.heap[o]? = some (.cells cs' t' (0, 0))) (hne : t ≠ t') (ht : Touch o w w') : w'.heap[g]? = some (.cells cs t (0, 0)) := by
  refine (ht.block g ?_).trans h
  rintro rfl
  rw [h] at ho
  injection ho with ho
  injection ho with _ ho _
  exact hne ho
theorem ne_of_types {w : World} {g o : Nat} {t t' : TypeId} {cs cs' : Array Value} (h : w.heap[g]? = some (.cells cs t (0, 0))) (ho : w.heap[o]? = some (.cells cs' t' (0, 0))) (hne : t ≠ t') : g ≠ o := blk_ne h ho hne

set_option maxHeartbeats 1000000 in
theorem odraw21_ok (B s o : Nat) (l : List Int) (k : Nat) (vl vt : Value) (nt : Nat) (rs : List Value) (kind n m : Int) (w : World) (hO : Orc B w o l k vl) (hS : Srce B w s 59 60 o vt nt rs .nilFunc) (hB : B ≤ w.heap.size)
    (hk : k < l.length) (hm : (if n < 1 then 1 else n) = m) (hm2 : m ≤ 9223372036854775807) (hx : 0 ≤ rd l k) (hnt : nt ≤ 1000) :
    Calls Try.prog 21 #[.pointer (some ⟨s, 0, none⟩), .int .i64 kind, .int .i64 n] w fun e w' =>
      e = .returned (.tuple #[.int .i64 (rd l k % m), .int .i64 0, .agg zU]) ∧ ∃ vt', Orc B w' o l (k + 1) vl ∧ Srce B w' s 59 60 o vt' (nt + 1) (rs ++ [.int .i64 kind, .int .u64 (rd l k % m)]) .nilFunc ∧ Below B w w' := by
  have hm1 : 1 ≤ m := by rw [← hm]; split <;> omega
  have hv0 : 0 ≤ rd l k % m := Int.emod_nonneg _ (by omega)
  have hv1 : rd l k % m < m := Int.emod_lt_of_pos _ (by omega)
  generalize hv : rd l k % m = v at hv0 hv1 ⊢
  have hn1 := dW_size w s kind n
  have hoW := blk_lt hO.blk
  have hsW := blk_lt hS.blk
  have hvW : ∀ k, vt.ownBlock = some k → k < w.heap.size := own_lt hS.row
  have hlW : ∀ k, vl.ownBlock = some k → k < w.heap.size := own_lt hO.row
  -- the run inside the guard
  have hrun : ∀ W, Below (dW w s kind n).heap.size (dW w s kind n) W → Calls Try.prog 61 (dCaps w) W fun e w' => e = .returned (.tuple #[]) ∧ Since (dW w s kind n).heap.size W w' ∧
      (∃ vt', Orc B w' o l (k + 1) vl ∧ Srce B w' s 59 60 o vt' (nt + 1) (rs ++ [.int .i64 kind, .int .u64 v]) .nilFunc ∧ Below B (dW w s kind n) w' ∧ w'.heap[w.heap.size + 1 + 1 + 1]? = some (.cells zU 27 (0, 0)) ∧ w'.heap[w.heap.size + 1 + 1 + 1 + 1]? = some (.cells #[.int .i64 v] 3 (0, 0))) := by
    intro W hW
    have hwW : Below w.heap.size w W := (dW_below w s kind n).trans (hW.mono (dW_below w s kind n).size)
    have hO1 : Orc B W o l k vl := hO.below hwW
    have hS1 : Srce B W s 59 60 o vt nt rs .nilFunc := hS.below hwW
    have a0 := blk_below (dW_0 w s kind n) hW
    have a1 := blk_below (dW_1 w s kind n) hW
    have a2 := blk_below (dW_2 w s kind n) hW
    have a3 := blk_below (dW_3 w s kind n) hW
    have a4 := blk_below (dW_4 w s kind n) hW
    have hd := draw_ok B s 59 60 o vt nt rs kind n m v W (fun w1 => Orc B w1 o l (k + 1) vl) hS1 (ne_of_types hS1.blk hO1.blk (by decide)) (Ne.symm (own_ne hS1.row hO1.blk (by decide))) callFunc59 hm hv0 (by omega) hnt (Nat.le_trans hB hwW.size)
      (hv ▸ odraw_ok B o l k vl kind m W hO1 hk hm1 hm2 hx)
    have hr := run_ok s w.heap.size (w.heap.size + 1) (w.heap.size + 1 + 1) (w.heap.size + 1 + 1 + 1 + 1) kind n v 0 W (fun w' => ∃ vt', Orc B w' o l (k + 1) vl ∧ Srce B w' s 59 60 o vt' (nt + 1) (rs ++ [.int .i64 kind, .int .u64 v]) .nilFunc ∧ Below B W w' ∧ Since (dW w s kind n).heap.size W w' ∧ w'.heap[w.heap.size + 1 + 1 + 1]? = some (.cells zU 27 (0, 0))) a0 a1 a2
      (hd.mono fun e w' ⟨h1, w1, vt', ht, hO2, hS2, hk2, hb2⟩ => by
        have hvtne : ∀ (g : Nat) (cs : Array Value) (t : TypeId), W.heap[g]? = some (Obj.cells cs t (0, 0)) → t ≠ 25 → vt.ownBlock ≠ some g := fun g cs t hg ht => Ne.symm (own_ne hS1.row hg (Ne.symm ht))
        have hs1 : w1.heap[s]? = _ := blk_touch hS1.blk hO1.blk (by decide) ht
        have keep : ∀ (g : Nat) (cs : Array Value) (t : TypeId), W.heap[g]? = some (Obj.cells cs t (0, 0)) → t ≠ 141 → t ≠ 144 → t ≠ 25 → w'.heap[g]? = some (Obj.cells cs t (0, 0)) := fun g cs t hg h141 h144 h25 =>
          blk_kept (blk_touch hg hO1.blk h141 ht) hk2 (fun hh => hh.elim (ne_of_types hg hS1.blk h144) (fun h => hvtne g cs t hg h25 h))
        refine ⟨h1, ⟨vt', hO2.kept hk2 ?_ ?_, hS2, (ht.below hO1.ge).trans hb2, ⟨Nat.le_trans (Nat.le_of_eq ht.size.symm) hk2.1, fun i hi hlt => ?_⟩, keep _ _ _ a3 (by decide) (by decide) (by decide)⟩, keep _ _ _ a4 (by decide) (by decide) (by decide)⟩
        · rintro (h | h)
          · exact ne_of_types hO1.blk hS1.blk (by decide) h
          · exact hvtne o _ _ hO1.blk (by decide) h
        · intro g hg hh
          have hgl := hlW g hg
          rcases hh with h | h
          · subst h; exact (own_ne hO1.row hS1.blk (by decide)) hg.symm
          · rcases own_type_ne hO1.row hS1.row (by decide) with h' | h'
            · rw [h'] at hg; cases hg
            · exact h' (hg.trans h.symm)
        · refine (hk2.2 i (by rw [ht.size]; exact hlt) ?_).trans (ht.block i (by omega))
          rintro (h | h)
          · omega
          · have := hvW i h; omega)
    refine hr.mono fun e w' ⟨h1, w1, ⟨vt', hO2, hS2, hb2, hs2, h3⟩, h4, hw⟩ => ⟨h1, ?_, vt', ?_⟩
    · rw [hw]
      exact ⟨Nat.le_trans hs2.1 (by simp [World.setCell]), fun i hi hlt => (Below.heap_setCell w1 _ _ i (by simp; omega)).trans (hs2.2 i hi hlt)⟩
    · have ht : Tame w1 w' := by rw [hw]; exact (Tame.refl w1).set h4 (.inl rfl) 0 _
      refine ⟨hO2.tame ht, hS2.tame ht, ?_, ?_, ?_⟩
      · rw [hw]
        exact ((hW.mono (Nat.le_trans hB (dW_below w s kind n).size)).trans hb2).setCell (by simp; omega) _
      · rw [hw]; exact blk_far h3 (by simp) _
      · rw [hw]; simpa using blk_set h4 0 (.int .i64 v)
  have hg := guard_well 61 (dCaps w) (callFunc61 _) (dW w s kind n) _ hrun
  have hd := draw21 s kind n v 0 0 0 0 0 0 w (fun w' => ∃ vt', Orc B w' o l (k + 1) vl ∧ Srce B w' s 59 60 o vt' (nt + 1) (rs ++ [.int .i64 kind, .int .u64 v]) .nilFunc ∧ Below B (dW w s kind n) w')
    (hg.mono fun e w' ⟨h1, w1, ⟨vt', hO2, hS2, hb2, h3, h4⟩, ht, hb⟩ => ⟨h1, ⟨vt', hO2.tame ht, hS2.tame ht, hb2.trans (hb.mono (Nat.le_trans hB (dW_below w s kind n).size))⟩, (hb.block _ (by omega)).trans h3, (hb.block _ (by omega)).trans h4⟩)
  exact hd.mono fun e w' ⟨h1, w1, ⟨vt', hO2, hS2, hb2⟩, ht, hb⟩ => ⟨h1, vt', hO2.tame ht, hS2.tame ht, (((dW_below w s kind n).mono hB).trans hb2).trans (hb.mono hB)⟩

theorem drew_below {B : Nat} {a w w' : World} (h : Below B a w) {n : Nat} (hw : w' = w.drewN n) : Below B a w' := by subst hw; exact pw_below_drewN h n

set_option maxHeartbeats 1000000 in
theorem odraw21_dry (B s o : Nat) (l : List Int) (vl vt : Value) (nt : Nat) (rs : List Value) (kind n : Int) (see : Value) (w : World) (hO : Orc B w o l l.length vl) (hS : Srce B w s 59 60 o vt nt rs see) (hB : B ≤ w.heap.size) :
    Calls Try.prog 21 #[.pointer (some ⟨s, 0, none⟩), .int .i64 kind, .int .i64 n] w fun e w' =>
      e = .returned (.tuple #[.int .i64 0, .int .i64 1, .agg zU]) ∧ Orc B w' o l l.length vl ∧ Srce B w' s 59 60 o vt nt rs see ∧ Below B w w' := by
  have hn1 := dW_size w s kind n
  have hrun : ∀ W, Below (dW w s kind n).heap.size (dW w s kind n) W → Calls Try.prog 61 (dCaps w) W fun e w' => e = .panicked [{ v := .iface 168 (.agg #[]), recovered := false }] ∧ Since (dW w s kind n).heap.size W w' ∧
      (Orc B w' o l l.length vl ∧ Srce B w' s 59 60 o vt nt rs see ∧ Below B (dW w s kind n) w' ∧ w'.heap[w.heap.size + 1 + 1 + 1]? = some (.cells zU 27 (0, 0)) ∧ w'.heap[w.heap.size + 1 + 1 + 1 + 1]? = some (.cells #[.int .i64 0] 3 (0, 0))) := by
    intro W hW
    have hwW : Below w.heap.size w W := (dW_below w s kind n).trans (hW.mono (dW_below w s kind n).size)
    have hO1 : Orc B W o l l.length vl := hO.below hwW
    have hS1 : Srce B W s 59 60 o vt nt rs see := hS.below hwW
    have a0 := blk_below (dW_0 w s kind n) hW
    have a1 := blk_below (dW_1 w s kind n) hW
    have a2 := blk_below (dW_2 w s kind n) hW
    have a3 := blk_below (dW_3 w s kind n) hW
    have a4 := blk_below (dW_4 w s kind n) hW
    have hd := draw_panics B s 59 60 o vt nt rs kind n _ dryV see W (fun w' => ∃ m, w' = W.drewN m) hS1 callFunc59 rfl (odraw_dry B o l vl kind _ W hO1)
    have hr := run_panics s w.heap.size (w.heap.size + 1) (w.heap.size + 1 + 1) (w.heap.size + 1 + 1 + 1 + 1) kind n dryV W _ a0 a1 a2 hd
    refine hr.mono fun e w' ⟨h1, m, hw⟩ => ⟨h1, ?_⟩
    subst hw
    exact ⟨⟨Nat.le_refl _, fun _ _ _ => rfl⟩, ⟨hO1.ge, hO1.blk, hO1.row⟩, ⟨hS1.ge, hS1.blk, hS1.row⟩, pw_below_drewN (hW.mono (Nat.le_trans hB (dW_below w s kind n).size)) m, a3, a4⟩
  have hg := guard_dry 61 (dCaps w) (callFunc61 _) (dW w s kind n) _ hrun
  have hd := draw21 s kind n 0 1 0 0 0 0 0 w (fun w' => Orc B w' o l l.length vl ∧ Srce B w' s 59 60 o vt nt rs see ∧ Below B (dW w s kind n) w')
    (hg.mono fun e w' ⟨h1, w1, ⟨hO2, hS2, hb2, h3, h4⟩, ht, hb⟩ => ⟨h1, ⟨hO2.tame ht, hS2.tame ht, hb2.trans (hb.mono (Nat.le_trans hB (dW_below w s kind n).size))⟩, (hb.block _ (by omega)).trans h3, (hb.block _ (by omega)).trans h4⟩)
  exact hd.mono fun e w' ⟨h1, w1, ⟨hO2, hS2, hb2⟩, ht, hb⟩ => ⟨h1, hO2.tame ht, hS2.tame ht, (((dW_below w s kind n).mono hB).trans hb2).trans (hb.mono hB)⟩
end Go.Proofs.Ythlllcmffgdcmab.Src

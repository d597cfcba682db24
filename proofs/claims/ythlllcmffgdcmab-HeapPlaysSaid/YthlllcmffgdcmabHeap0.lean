import Derived.Test.YthlllcmffgdcmabSrc0
import Derived.Test.YthlllcmffgdcmabHeapPlain
import Derived.StillTailTactics
import Derived.Deep.RegionHeld3
import Derived.Deep.AppendLies
import Derived.Outline
namespace Go.Proofs.Ythlllcmffgdcmab.Heap
open Go.RowKit Go.Proofs.YthlllcmffgdcmabW.PrintWords Go.Proofs.YthlllcmffgdcmabW.PrintLast Go.Proofs.YthlllcmffgdcmabW.PrintMore Go.Proofs.Ythlllcmffgdcmab.HeapPlain
set_option linter.unusedVariables false
set_option linter.unusedSimpArgs false

/-- An item's cells. -/
def c3 (x : It) : List Value := [.int .u64 x.t, .int .u64 x.s, .int .i64 x.d]
def cs3 (l : List It) : List Value := l.flatMap c3
theorem cs3_cons (x : It) (l : List It) : cs3 (x :: l) = .int .u64 x.t :: .int .u64 x.s :: .int .i64 x.d :: cs3 l := rfl
theorem cs3_len (l : List It) : (cs3 l).length = l.length * 3 := by
  induction l with
  | nil => rfl
  | cons x l ih => rw [cs3_cons]; simp only [List.length_cons, ih]; omega
theorem cs3_append (l m : List It) : cs3 (l ++ m) = cs3 l ++ cs3 m := by simp [cs3]
theorem cs3_take (l : List It) (n : Nat) : (cs3 l).take (n * 3) = cs3 (l.take n) := by
  induction l generalizing n with
  | nil => simp [cs3]
  | cons x l ih =>
    cases n with
    | zero => simp [cs3]
    | succ n =>
      rw [List.take_succ_cons, cs3_cons, cs3_cons, show (n + 1) * 3 = n * 3 + 1 + 1 + 1 by omega, List.take_succ_cons, List.take_succ_cons, List.take_succ_cons, ih]
theorem g_cons (x : It) (l : List It) (i : Nat) : g (x :: l) (i + 1) = g l i := by simp [g]
theorem cs3_get (l : List It) (i : Nat) (h : i < l.length) : (cs3 l)[i * 3]? = some (.int .u64 (g l i).t) ∧ (cs3 l)[i * 3 + 1]? = some (.int .u64 (g l i).s) ∧ (cs3 l)[i * 3 + 2]? = some (.int .i64 (g l i).d) := by
  induction l generalizing i with
  | nil => simp at h
  | cons x l ih =>
    cases i with
    | zero => exact ⟨rfl, rfl, rfl⟩
    | succ i =>
      have := ih i (by simpa using h)
      rw [g_cons, cs3_cons, show (i + 1) * 3 = i * 3 + 1 + 1 + 1 by omega]
      simpa using this
theorem cs3_set (l : List It) (i : Nat) (x : It) : (((cs3 l).set (i * 3) (.int .u64 x.t)).set (i * 3 + 1) (.int .u64 x.s)).set (i * 3 + 2) (.int .i64 x.d) = cs3 (l.set i x) ∨ l.length ≤ i := by
  induction l generalizing i with
  | nil => exact .inr (by simp)
  | cons y l ih =>
    cases i with
    | zero => exact .inl rfl
    | succ i =>
      rcases ih i with h | h
      · left
        rw [List.set_cons_succ, cs3_cons, cs3_cons, show (i + 1) * 3 = i * 3 + 1 + 1 + 1 by omega, ← h]
        rfl
      · exact .inr (by simp; omega)

/-- A row of items of one's own. -/
def Row (w : World) (B : Nat) (v : Value) (l : List It) : Prop := w.ownsRow B 88 3 v l.length (cs3 l)
theorem Row.nil (w : World) (B : Nat) : Row w B (.slice none 0 0) [] := own_nil _ _ _ _
theorem Row.form {w : World} {B : Nat} {v : Value} {l : List It} (h : Row w B v l) (hn : 0 < l.length) : ∃ gr cap, v = .slice (some ⟨gr, 0, none⟩) l.length cap ∧ l.length ≤ cap ∧ B ≤ gr ∧ gr < w.heap.size ∧
    (∀ i, i < l.length → w.cell? ⟨gr, i * 3, none⟩ = some (.int .u64 (g l i).t) ∧ w.cell? ⟨gr, i * 3 + 1, none⟩ = some (.int .u64 (g l i).s) ∧ w.cell? ⟨gr, i * 3 + 2, none⟩ = some (.int .i64 (g l i).d)) ∧ (∀ j, w.frozen? ⟨gr, j, none⟩ = false) := by
  obtain ⟨hl, h2⟩ := h
  rcases h2 with ⟨_, h0⟩ | ⟨gr, cap, cur, rfl, hb, hh, hc, hm, hs, ht⟩
  · omega
  · refine ⟨gr, cap, rfl, hc, hb, blk_lt hh, fun i hi => ?_, fun j => blk_frozen hh j⟩
    have key : ∀ j u, j < l.length * 3 → (cs3 l)[j]? = some u → w.cell? ⟨gr, j, none⟩ = some u := fun j u hj hu => by
      rw [blk_cell hh j]
      rw [← ht, List.getElem?_take_of_lt hj, Array.getElem?_toList] at hu
      exact hu
    have hg := cs3_get l i hi
    exact ⟨key _ _ (by omega) hg.1, key _ _ (by omega) hg.2.1, key _ _ (by omega) hg.2.2⟩
theorem own_set1 {w : World} {B gr n cap size : Nat} {e : TypeId} {xs : List Value} (h : w.ownsRow B e size (.slice (some ⟨gr, 0, none⟩) n cap) n xs) {j : Nat} (u : Value) : (w.setCell ⟨gr, j, none⟩ u).ownsRow B e size (.slice (some ⟨gr, 0, none⟩) n cap) n (xs.set j u) := by
  obtain ⟨hl, h2⟩ := h
  refine ⟨by rw [List.length_set, hl], ?_⟩
  rcases h2 with ⟨e, _⟩ | ⟨g', cap', cur, e, hb, hh, hc, hm, hs, ht⟩
  · cases e
  · injection e with e e1 e2
    injection e with e
    injection e with e
    subst e e2
    refine .inr ⟨gr, cap, cur.setIfInBounds j u, rfl, hb, blk_set hh j _, hc, hm, by simpa using hs, ?_⟩
    rw [Array.toList_setIfInBounds, List.take_set, ht]
/-- One item, stored. -/
def set3 (w : World) (gr i : Nat) (x : It) : World := ((w.setCell ⟨gr, i * 3, none⟩ (.int .u64 x.t)).setCell ⟨gr, i * 3 + 1, none⟩ (.int .u64 x.s)).setCell ⟨gr, i * 3 + 2, none⟩ (.int .i64 x.d)
theorem Row.set {w : World} {B gr cap : Nat} {l : List It} (h : Row w B (.slice (some ⟨gr, 0, none⟩) l.length cap) l) {i : Nat} (hi : i < l.length) (x : It) : Row (set3 w gr i x) B (.slice (some ⟨gr, 0, none⟩) l.length cap) (l.set i x) := by
  have := own_set1 (own_set1 (own_set1 h (j := i * 3) (.int .u64 x.t)) (j := i * 3 + 1) (.int .u64 x.s)) (j := i * 3 + 2) (.int .i64 x.d)
  rcases cs3_set l i x with h1 | h1
  · rw [h1] at this
    unfold Row
    rw [List.length_set]
    exact this
  · omega

/-- A heap in memory: its row, the next number. -/
structure IsHeap (B : Nat) (w : World) (p : Nat) (v : Value) (l : List It) (sq : Int) : Prop where
  ge : B ≤ p
  blk : w.heap[p]? = some (.cells #[v, .int .u64 sq] 83 (0, 0))
  row : Row w B v l
/-- What a heap's call leaves. -/
structure Step (B p : Nat) (v v' : Value) (w w' : World) : Prop where
  below : Below B w w'
  kept : Kept w w' (fun k => k = p ∨ v.ownBlock = some k)
  moved : ∀ k, v'.ownBlock = some k → v.ownBlock = some k ∨ w.heap.size ≤ k
theorem Step.refl (B p : Nat) (v : Value) (w : World) : Step B p v v w w := ⟨Below.refl _ _, Kept.refl _ _, fun _ h => .inl h⟩
theorem Step.trans {B p : Nat} {v v' v'' : Value} {a b c : World} (h : Step B p v v' a b) (k : Step B p v' v'' b c) (hp : p < a.heap.size) : Step B p v v'' a c :=
  ⟨h.below.trans k.below, h.kept.then_ k.kept (fun i hi => by
    rcases hi with hi | hi
    · exact .inl (.inl hi)
    · exact (h.moved i hi).imp .inr id), fun i hi => by
    rcases k.moved i hi with h1 | h1
    · exact h.moved i h1
    · exact .inr (Nat.le_trans h.kept.1 h1)⟩
theorem Step.of_below {B p : Nat} {v v' : Value} {a b c : World} (h : Step B p v v' a b) (k : Below b.heap.size b c) (hB : B ≤ b.heap.size) : Step B p v v' a c :=
  ⟨below_then h.below hB k, h.kept.below k, h.moved⟩
theorem Step.drew {B p : Nat} {v v' : Value} {a b : World} (h : Step B p v v' a b) : Step B p v v' a b.drew := ⟨h.below.drew, h.kept.drew, h.moved⟩
theorem IsHeap.below {B : Nat} {w w' : World} {p : Nat} {v : Value} {l : List It} {sq : Int} (h : IsHeap B w p v l sq) (hb : Below w.heap.size w w') : IsHeap B w' p v l sq := ⟨h.ge, blk_below h.blk hb, pw_own_below h.row hb⟩
theorem IsHeap.drew {B : Nat} {w : World} {p : Nat} {v : Value} {l : List It} {sq : Int} (h : IsHeap B w p v l sq) : IsHeap B w.drew p v l sq := ⟨h.ge, h.blk, h.row⟩

/-- Ahead of another one, as Go answers. -/
def bfB (a b : It) : Bool := decide (a.bf b)
theorem bfB_true {a b : It} (h : a.bf b) : bfB a b = true := decide_eq_true h
theorem bfB_false {a b : It} (h : ¬ a.bf b) : bfB a b = false := decide_eq_false h
def a3 (x : It) : Array Value := #[.int .u64 x.t, .int .u64 x.s, .int .i64 x.d]

set_option maxHeartbeats 1000000 in
theorem before_calls (a b : It) (w : World) : Calls Try.prog 86 #[.agg #[.int .u64 a.t, .int .u64 a.s, .int .i64 a.d], .agg #[.int .u64 b.t, .int .u64 b.s, .int .i64 b.d]] w fun e w' => e = .returned (.bool (bfB a b)) ∧ Below w.heap.size w w' := by
  obtain ⟨at_, sa, ad⟩ := a
  obtain ⟨bt_, sb, bd⟩ := b
  have hb : Below w.heap.size w ((w.alloc (.cells #[.int .u64 at_, .int .u64 sa, .int .i64 ad] 88)).alloc (.cells #[.int .u64 bt_, .int .u64 sb, .int .i64 bd] 88)) := below_alloc (below_alloc (Below.refl _ _) _) _
  have HB := Aside0.mk hb
  clear hb
  rcases Int.lt_trichotomy at_ bt_ with h | h | h
  · rw [bfB_true (a := ⟨at_, sa, ad⟩) (b := ⟨bt_, sb, bd⟩) (.inl h)]
    have q1 : decide (at_ < bt_) = true := decide_eq_true h
    go_enter Try.func86, Try.ntmps86
    go_wp2
    go_ret
    exact ⟨rfl, HB.out⟩
  · subst h
    have q1 : decide (at_ < at_) = false := decide_eq_false (by omega)
    have q2 : (at_ == at_) = true := beq_self_eq_true _
    by_cases hs : sa < sb
    · rw [bfB_true (a := ⟨at_, sa, ad⟩) (b := ⟨at_, sb, bd⟩) (.inr ⟨rfl, hs⟩)]
      have q3 : decide (sa < sb) = true := decide_eq_true hs
      go_enter Try.func86, Try.ntmps86
      go_wp2
      go_ret
      exact ⟨rfl, HB.out⟩
    · rw [bfB_false (a := ⟨at_, sa, ad⟩) (b := ⟨at_, sb, bd⟩) (by unfold It.bf; simp; omega)]
      have q3 : decide (sa < sb) = false := decide_eq_false hs
      go_enter Try.func86, Try.ntmps86
      go_wp2
      go_ret
      exact ⟨rfl, HB.out⟩
  · rw [bfB_false (a := ⟨at_, sa, ad⟩) (b := ⟨bt_, sb, bd⟩) (by unfold It.bf; simp; omega)]
    have q1 : decide (at_ < bt_) = false := decide_eq_false (by omega)
    have q2 : (at_ == bt_) = false := by rw [beq_eq_false_iff_ne]; omega
    clear h
    go_enter Try.func86, Try.ntmps86
    go_wp2
    go_ret
    exact ⟨rfl, HB.out⟩
end Go.Proofs.Ythlllcmffgdcmab.Heap

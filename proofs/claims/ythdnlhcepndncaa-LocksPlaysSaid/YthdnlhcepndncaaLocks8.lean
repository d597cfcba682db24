import Derived.Test.YthdnlhcepndncaaLocks7
import Derived.Test.YthdnlhcepndncaaQLocksPlaysx1
import Derived.Deep.DeepCutAuto
import Derived.Deep.CutBlock
namespace Go.Proofs.Ythdnlhcepndncaa.Locks
open Go.RowKit Go.Proofs.YthdnlhcepndncaaW.PrintWords Go.Proofs.YthdnlhcepndncaaW.PrintLast Go.Proofs.YthdnlhcepndncaaW.PrintMore
set_option linter.unusedVariables false
set_option linter.unusedSimpArgs false

/-- A row of numbers beside the row v. -/
def Beside (B : Nat) (w : World) (v u : Value) (zs : List Int) : Prop := w.ownsRow B 3 1 u zs.length (nums .i64 zs) ∧ NeRow v u
theorem Beside.below {B : Nat} {w w' : World} {v u : Value} {zs : List Int} (h : Beside B w v u zs) (hb : Below w.heap.size w w') : Beside B w' v u zs := ⟨pw_own_below h.1 hb, h.2⟩
theorem Beside.set {B : Nat} {w : World} {v u : Value} {zs : List Int} (h : Beside B w v u zs) {b : Nat} {cs : Array Value} (hb : w.heap[b]? = some (.cells cs 36 (0, 0))) (i : Nat) (x : Value) : Beside B (w.setCell ⟨b, i, none⟩ x) v u zs :=
  ⟨own_setCell h.1 (own_ne h.1 hb (by decide)) _, h.2⟩
theorem next_ne {B : Nat} {w : World} {v v' u : Value} {zs : List Int} (h : Beside B w v u zs) (hn : RowNext w v v') : NeRow v' u := by
  rcases hn with hn | ⟨b, hb, hs⟩
  · intro k hk; rw [hn] at hk; exact h.2 k hk
  · intro k hk hu
    have := own_lt h.1 k hu
    rw [hb] at hk; injection hk with hk; omega
theorem Beside.step {B g : Nat} {w w' : World} {v v' u : Value} {zs : List Int} {cs : Array Value} (h : Beside B w v u zs) (hg : w.heap[g]? = some (.cells cs 80 (0, 0))) (hk : KeepBut w w' g v.ownBlock) (hn : RowNext w v v') : Beside B w' v' u zs :=
  ⟨hk.own h.1 (Ne.symm (own_ne h.1 hg (by decide))) (ne_other h.2), next_ne h hn⟩
theorem Beside.new {B : Nat} {w0 w : World} {v u : Value} {zs ws : List Int} (hu : w.ownsRow w0.heap.size 3 1 u zs.length (nums .i64 zs)) (hv : w0.ownsRow B 3 1 v ws.length (nums .i64 ws)) (hB : B ≤ w0.heap.size) : Beside B w v u zs :=
  ⟨own_weaken hu hB, fun k hk hk2 => by have h1 := own_lt hv k hk; have h2 := own_base hu k hk2; omega⟩
theorem Beside.reads {B : Nat} {w : World} {v u : Value} {zs : List Int} (h : Beside B w v u zs) : ∃ A c, u = .slice A zs.length c ∧ zs.length ≤ c ∧ ReadsInt w .i64 A zs.length zs := by
  obtain ⟨A, c, rfl, hle, hr⟩ := own_reads_of_le (enc := Value.int .i64) (d := (0 : Int)) h.1
  exact ⟨A, c, rfl, hle, hr⟩

theorem LockV.below {B g : Nat} {w w' : World} {o : Int} {ws : List Int} {v : Value} (h : LockV B w g o ws v) (hb : Below w.heap.size w w') : LockV B w' g o ws v := ⟨h.1, blk_below h.2.1 hb, pw_own_below h.2.2 hb⟩
theorem LockV.set {B g : Nat} {w : World} {o : Int} {ws : List Int} {v : Value} (h : LockV B w g o ws v) {b : Nat} {cs : Array Value} (hb : w.heap[b]? = some (.cells cs 36 (0, 0))) (i : Nat) (x : Value) : LockV B (w.setCell ⟨b, i, none⟩ x) g o ws v :=
  ⟨h.1, blk_far h.2.1 (blk_ne h.2.1 hb (by decide)) x, own_setCell h.2.2 (own_ne h.2.2 hb (by decide)) _⟩
theorem LockV.lower {B B' g : Nat} {w : World} {o : Int} {ws : List Int} {v : Value} (h : LockV B w g o ws v) (hB : B' ≤ B) : LockV B' w g o ws v := ⟨Nat.le_trans hB h.1, h.2.1, own_weaken h.2.2 hB⟩

/-- The lock, and the document's lock beside it (in the block b). -/
structure St (B : Nat) (w : World) (g b : Nat) (o : Int) (ws : List Int) (v u : Value) : Prop where
  lock : LockV B w g o ws v
  blk : w.heap[b]? = some (.cells #[u] 36 (0, 0))
  row : Beside B w v u (Z o ws)
  none : o = -1 → ws = []
  pos : ∀ x ∈ ws, x ≠ -1
theorem St.below {B g b : Nat} {w w' : World} {o : Int} {ws : List Int} {v u : Value} (h : St B w g b o ws v u) (hb : Below w.heap.size w w') : St B w' g b o ws v u :=
  ⟨h.lock.below hb, blk_below h.blk hb, h.row.below hb, h.none, h.pos⟩

/-- A clone beside the lock: none yet, or one, and the document's lock (in the block b). -/
def Cl (B : Nat) (w : World) (g b : Nat) (v d : Value) : Prop :=
  (d = .pointer none ∧ ∃ u, w.heap[b]? = some (.cells #[u] 36 (0, 0))) ∨
  ∃ gd od wsd vd u, d = .pointer (some ⟨gd, 0, none⟩) ∧ LockV B w gd od wsd vd ∧ w.heap[b]? = some (.cells #[u] 36 (0, 0)) ∧ Beside B w v u (Z od wsd) ∧ gd ≠ g ∧ NeRow v vd ∧ (od = -1 → wsd = []) ∧ wsd.length ≤ 1000
theorem Cl.below {B g b : Nat} {w w' : World} {v d : Value} (h : Cl B w g b v d) (hb : Below w.heap.size w w') : Cl B w' g b v d := by
  rcases h with ⟨h1, u, h2⟩ | ⟨gd, od, wsd, vd, u, h1, h2, h3, h4, h5⟩
  · exact .inl ⟨h1, u, blk_below h2 hb⟩
  · exact .inr ⟨gd, od, wsd, vd, u, h1, h2.below hb, blk_below h3 hb, h4.below hb, h5⟩
theorem Cl.set {B g b b' : Nat} {w : World} {v d : Value} (h : Cl B w g b v d) {cs : Array Value} (hb : w.heap[b']? = some (.cells cs 36 (0, 0))) (hne : b ≠ b') (i : Nat) (x : Value) : Cl B (w.setCell ⟨b', i, .none⟩ x) g b v d := by
  rcases h with ⟨h1, u, h2⟩ | ⟨gd, od, wsd, vd, u, h1, h2, h3, h4, h5⟩
  · exact .inl ⟨h1, u, blk_far h2 hne x⟩
  · exact .inr ⟨gd, od, wsd, vd, u, h1, h2.set hb i x, blk_far h3 hne x, h4.set hb i x, h5⟩
theorem blk_step {B g b : Nat} {w w' : World} {o : Int} {ws : List Int} {v v' : Value} {cs : Array Value} (hl : LockV B w g o ws v) (hb : w.heap[b]? = some (.cells cs 36 (0, 0))) (hk : KeepBut w w' g v.ownBlock) : w'.heap[b]? = some (.cells cs 36 (0, 0)) :=
  hk.blk hb (Ne.symm (blk_ne hl.2.1 hb (by decide))) (own_ne hl.2.2 hb (by decide))
theorem Cl.step {B g b : Nat} {w w' : World} {o : Int} {ws : List Int} {v v' d : Value} (h : Cl B w g b v d) (hl : LockV B w g o ws v) (hk : KeepBut w w' g v.ownBlock) (hn : RowNext w v v') : Cl B w' g b v' d := by
  rcases h with ⟨h1, u, h2⟩ | ⟨gd, od, wsd, vd, u, h1, h2, h3, h4, h5, h6, h7⟩
  · exact .inl ⟨h1, u, blk_step (v' := v') hl h2 hk⟩
  · have hvd : Beside B w v vd wsd := ⟨h2.2.2, h6⟩
    have hvd' := hvd.step hl.2.1 hk hn
    refine .inr ⟨gd, od, wsd, vd, u, h1, ⟨h2.1, hk.blk h2.2.1 h5 ?_, hvd'.1⟩, blk_step (v' := v') hl h3 hk, h4.step hl.2.1 hk hn, h5, hvd'.2, h7⟩
    exact own_ne hl.2.2 h2.2.1 (by decide)

theorem Cl.blk {B g b : Nat} {w : World} {v d : Value} (h : Cl B w g b v d) : ∃ u, w.heap[b]? = some (.cells #[u] 36 (0, 0)) := by
  rcases h with ⟨h1, u, h2⟩ | ⟨gd, od, wsd, vd, u, h1, h2, h3, h4, h5⟩
  · exact ⟨u, h2⟩
  · exact ⟨u, h3⟩
theorem St.set {B g b b' : Nat} {w : World} {o : Int} {ws : List Int} {v u : Value} (h : St B w g b o ws v u) {cs : Array Value} (hb : w.heap[b']? = some (.cells cs 36 (0, 0))) (hne : b ≠ b') (i : Nat) (x : Value) : St B (w.setCell ⟨b', i, .none⟩ x) g b o ws v u :=
  ⟨h.lock.set hb i x, blk_far h.blk hne x, h.row.set hb i x, h.none, h.pos⟩
/-- A clone, laid beside the lock. -/
theorem Cl.new {B g b b' gd : Nat} {w w4 : World} {o : Int} {ws : List Int} {v u vd ub : Value} (h : St B w g b' o ws v u) (hl : LockV w.heap.size w4 gd o ws vd) (hb : Below w.heap.size w w4) (hB : B ≤ w.heap.size) (hub : w4.heap[b]? = some (.cells #[ub] 36 (0, 0))) (hlen : ws.length ≤ 1000) :
    Cl B (w4.setCell ⟨b, 0, .none⟩ u) g b v (.pointer (some ⟨gd, 0, .none⟩)) := by
  refine .inr ⟨gd, o, ws, vd, u, rfl, (hl.lower hB).set hub 0 u, by simpa using blk_set hub 0 u, (h.row.below hb).set hub 0 u, ?_, ?_, h.none, hlen⟩
  · have := blk_lt h.lock.2.1; have := hl.1; omega
  · intro k hk hk2
    have h1 := own_lt h.lock.2.2 k hk; have h2 := own_base hl.2.2 k hk2; omega

theorem Z_length (o : Int) (ws : List Int) : (Z o ws).length ≤ ws.length + 1 := by unfold Z; split <;> simp
theorem new_v (B : Nat) (w : World) (hB : B ≤ w.heap.size) : Calls Try.prog 16 #[] w fun e w' => ∃ g v, e = .returned (.pointer (some ⟨g, 0, none⟩)) ∧ LockV B w' g (-1) [] v ∧ Below w.heap.size w w' :=
  (new_calls B w hB).mono fun e w' ⟨g, h1, ⟨h2, v, h3, h4⟩, h5⟩ => ⟨g, v, h1, ⟨h2, h3, h4⟩, h5⟩

theorem rtake_calls (B : Nat) (v u : Value) (zs : List Int) (x : Int) (w : World) (h : Beside B w v u zs) (hl : zs.length ≤ 1000) : Calls Try.prog 21 #[.agg #[u], .int .i64 x] w fun e w' =>
    ∃ u1, e = .returned (.tuple #[.agg #[u1], .bool (zs.length == 0)]) ∧ w'.ownsRow w.heap.size 3 1 u1 (zs ++ [x]).length (nums .i64 (zs ++ [x])) ∧ Below w.heap.size w w' := by
  obtain ⟨A, c, rfl, hc, hr⟩ := h.reads
  have hf : QLocksPlays.shunterref14_Take.f zs x = some (zs ++ [x], ((zs.length : Int) == 0)) := by
    unfold QLocksPlays.shunterref14_Take.f
    simp only [Option.bind_some, List.nil_append, List.length_nil, List.length_singleton]
    rw [if_pos (by omega), if_pos (by omega)]
  refine (QLocksPlays.shunterref14_Take.calls A c zs x _ _ w (Kd.C_of_reads (readsInt_of.1 hr)) hc hf).mono fun e w' ⟨u1, h1, h2, h3⟩ => ?_
  have hz : ((zs.length : Int) == 0) = (zs.length == 0) := by
    by_cases h0 : zs.length = 0
    · rw [h0]; rfl
    · rw [beq_eq_false_iff_ne.2 h0, beq_eq_false_iff_ne.2 (by omega)]
  rw [hz] at h1
  exact ⟨u1, h1, Kd.own_of_R h2, h3⟩

theorem same_calls (B g b : Nat) (o : Int) (ws : List Int) (v u v0 : Value) (w : World) (hL : LockV B w g o ws v) (hr : Beside B w v0 u (Z o ws)) (h0 : o = -1 → ws = []) (hl : ws.length ≤ 1000) : Calls Try.prog 23 #[.pointer (some ⟨g, 0, none⟩), .agg #[u]] w fun e w' =>
    e = .returned (.int .i64 0) ∧ Below w.heap.size w w' := by
  obtain ⟨A, c, rfl, hc, hr⟩ := hr.reads
  by_cases ho : o = -1
  · obtain rfl := h0 ho
    subst ho
    exact same_none B g v c A w hL
  · have hz : Z o ws = o :: ws := if_neg ho
    rw [hz] at hr ⊢
    exact same_some B g o ws v c A w hL hl hr

/-- The lock; what stands in the block b; a row u1 of L beside the lock's. -/
structure Mid (B : Nat) (w : World) (g b : Nat) (o : Int) (ws : List Int) (v u u1 : Value) (L : List Int) : Prop where
  lock : LockV B w g o ws v
  blk : w.heap[b]? = some (.cells #[u] 36 (0, 0))
  row : Beside B w v u1 L
theorem Mid.below {B g b : Nat} {w w' : World} {o : Int} {ws L : List Int} {v u u1 : Value} (h : Mid B w g b o ws v u u1 L) (hb : Below w.heap.size w w') : Mid B w' g b o ws v u u1 L := ⟨h.lock.below hb, blk_below h.blk hb, h.row.below hb⟩
theorem Mid.step {B g b : Nat} {w w' : World} {o o' : Int} {ws ws' L : List Int} {v v' u u1 : Value} (h : Mid B w g b o ws v u u1 L) (hl : LockV B w' g o' ws' v') (hk : KeepBut w w' g v.ownBlock) (hn : RowNext w v v') : Mid B w' g b o' ws' v' u u1 L :=
  ⟨hl, blk_step (v' := v') h.lock h.blk hk, h.row.step h.lock.2.1 hk hn⟩
theorem Mid.put {B g b : Nat} {w : World} {o : Int} {ws L : List Int} {v u u1 : Value} (h : Mid B w g b o ws v u u1 L) : Mid B (w.setCell ⟨b, 0, .none⟩ u1) g b o ws v u1 u1 L :=
  ⟨h.lock.set h.blk 0 u1, by simpa using blk_set h.blk 0 u1, h.row.set h.blk 0 u1⟩
theorem St.of_mid {B g b : Nat} {w : World} {o : Int} {ws : List Int} {v u : Value} {L : List Int} (h : Mid B w g b o ws v u u L) (hL : L = Z o ws) (h0 : o = -1 → ws = []) (h1 : ∀ x ∈ ws, x ≠ -1) : St B w g b o ws v u := by
  subst hL; exact ⟨h.lock, h.blk, h.row, h0, h1⟩

theorem rgive_calls (B g b : Nat) (o q : Int) (ws : List Int) (v u : Value) (w : World) (h : St B w g b o ws v u) (hq : q ≠ -1) (hl : ws.length ≤ 500) (hB : B ≤ w.heap.size) : Calls Try.prog 22 #[.agg #[u], .int .i64 q] w fun e w' =>
    ∃ u1, e = .returned (.tuple #[.agg #[u1], .int .i64 (gN o q ws), .int .i64 (gE o q)]) ∧ Beside B w' v u1 (Z (gO o q ws) (gW o q ws)) ∧ Below w.heap.size w w' ∧ (gO o q ws = -1 → gW o q ws = []) ∧ (∀ x ∈ gW o q ws, x ≠ -1) ∧ (gW o q ws).length ≤ ws.length := by
  have hrow := h.row
  obtain ⟨A, c, hu, hc, hr⟩ := h.row.reads
  by_cases ho : o = -1
  · obtain rfl := h.none ho
    obtain ⟨e1, e2, e3, e4⟩ := g_no (x := q) [] (.inl ho)
    subst ho
    rw [e1, e2, e3, e4]
    subst hu
    exact (rgive_nil q c A w).mono fun e w' ⟨h1, h2⟩ => ⟨_, h1, hrow.below h2, h2, fun _ => rfl, by simp, Nat.le_refl _⟩
  · have hz : Z o ws = o :: ws := if_neg ho
    rw [hz] at hu hc hr
    by_cases hoq : o = q
    · subst hoq
      obtain ⟨e1, e2, e3, e4⟩ := g_yes ws ho
      rw [e1, e2, e3, e4]
      subst hu
      cases ws with
      | nil => exact (rgive_one o c A w hr).mono fun e w' ⟨h1, h2⟩ => ⟨_, h1, ⟨own_nil _ _ _ _, ne_nil' v⟩, h2, fun _ => rfl, by simp, by simp⟩
      | cons y tl =>
        have hy : y ≠ -1 := h.pos y (by simp)
        have hzy : Z y tl = y :: tl := if_neg hy
        simp only [List.headD_cons, List.tail_cons]
        refine (rgive_more o y tl c hc (by simp at hl ⊢; omega) A w hr).mono fun e w' ⟨u1, h1, h2, h3⟩ => ⟨u1, h1, ?_, h3, fun hh => absurd hh hy, fun x hx => h.pos x (by simp [hx]), by simp⟩
        rw [hzy]
        exact Beside.new h2 h.lock.2.2 hB
    · obtain ⟨e1, e2, e3, e4⟩ := g_no (x := q) ws (.inr hoq)
      rw [e1, e2, e3, e4]
      subst hu
      exact (rgive_no q o ws c A w hr hoq).mono fun e w' ⟨h1, h2⟩ => ⟨_, h1, hrow.below h2, h2, h.none, h.pos, Nat.le_refl _⟩

/-- What both answer where somebody takes. -/
theorem take_both {B g b : Nat} {w : World} {o q : Int} {ws : List Int} {v u : Value} (hq : q ≠ -1) (h : St B w g b o ws v u) :
    Z o ws ++ [q] = Z (if o = -1 then q else o) (if o = -1 then ws else ws ++ [q]) ∧ ((if o = -1 then q else o) = -1 → (if o = -1 then ws else ws ++ [q]) = []) ∧ (∀ x ∈ (if o = -1 then ws else ws ++ [q]), x ≠ -1) ∧ ((Z o ws).length == 0) = (o == -1) ∧ (if o = -1 then ws else ws ++ [q]).length ≤ ws.length + 1 := by
  by_cases ho : o = -1
  · subst ho
    have := h.none rfl
    subst this
    simp only [if_true, Z, if_neg hq]
    exact ⟨rfl, fun h => absurd h hq, by simp, rfl, by simp⟩
  · simp only [Z, if_neg ho]
    refine ⟨rfl, fun h => absurd h ho, ?_, by simp [ho], by simp⟩
    intro x hx
    rcases List.mem_append.1 hx with hx | hx
    · exact h.pos x hx
    · have : x = q := by simpa using hx
      rw [this]; exact hq
end Go.Proofs.Ythdnlhcepndncaa.Locks

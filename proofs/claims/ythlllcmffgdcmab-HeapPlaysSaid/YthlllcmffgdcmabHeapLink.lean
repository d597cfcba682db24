/- The reference's heap in memory, beside the program's: each call's contract over items. -/
import Derived.Test.YthlllcmffgdcmabHeapRef
namespace Go.Proofs.Ythlllcmffgdcmab.Heap
open Go.RowKit Go.Proofs.YthlllcmffgdcmabW.PrintWords Go.Proofs.YthlllcmffgdcmabW.PrintLast Go.Proofs.YthlllcmffgdcmabW.PrintMore Go.Proofs.Ythlllcmffgdcmab.HeapPlain Go.Proofs.Ythlllcmffgdcmab.PHeapPlays
set_option linter.unusedVariables false
set_option linter.unusedSimpArgs false

/-- The reference's row of items, of one's own. -/
def RRow (w : World) (B : Nat) (v : Value) (x : List It) : Prop := Kd.R k107 107 w B (fun _ => True) v (x.map s7)
theorem RRow.nil (w : World) (B : Nat) : RRow w B (.slice none 0 0) [] := Kd.R_nil _ _ _ _ _
theorem RRow.below {w w1 : World} {B : Nat} {v : Value} {x : List It} (h : RRow w B v x) (hb : Below w.heap.size w w1) : RRow w1 B v x := Kd.R_below h hb
theorem RRow.lower {w : World} {B B' : Nat} {v : Value} {x : List It} (h : RRow w B v x) (hb : B' ≤ B) : RRow w B' v x := Kd.R_lower h hb
theorem RRow.slice {w : World} {B : Nat} {v : Value} {x : List It} (h : RRow w B v x) : ∃ A c, v = .slice A x.length c ∧ x.length ≤ c ∧ Kd.C k107 w A (x.map s7).length (x.map s7) := by
  obtain ⟨A, c, e, hl, hc⟩ := Kd.R_reads h
  rw [List.length_map] at e hl
  exact ⟨A, c, e, hl, hc⟩
/-- All but blocks of other types are as they were. -/
theorem RRow.types {w w1 : World} {B : Nat} {v : Value} {x : List It} (h : RRow w B v x) {S : Nat → Prop} (hk : Kept w w1 S) (hS : ∀ k cells, S k → w.heap[k]? ≠ some (.cells cells 107 (0, 0))) : RRow w1 B v x :=
  Kd.R_mono (Kd.R_move (Kd.R_bound h) (fun k hk' => by
    obtain ⟨_, h1, h2, q, hq, cells, hc⟩ := hk'
    have hq' : q = 107 := by
      have e : k107.E = [] := rfl
      rw [e] at hq
      simpa using hq
    subst hq'
    exact hk.2 k h2 (fun hs => hS k cells hs hc))) (fun _ hk => hk.1)
theorem RRow.own {w : World} {B : Nat} {v : Value} {x : List It} (h : RRow w B v x) : ∀ k, v.ownBlock = some k → k < w.heap.size ∧ ∃ cells, w.heap[k]? = some (.cells cells 107 (0, 0)) := by
  intro k hk
  obtain ⟨_, h1, h2, q, hq, cells, hc⟩ := (Kd.R_bound h).1 k hk
  have hq' : q = 107 := by
    have e : k107.E = [] := rfl
    rw [e] at hq
    simpa using hq
  subst hq'
  exact ⟨h2, cells, hc⟩
theorem row_type {w : World} {B : Nat} {v : Value} {l : List It} (h : Row w B v l) : ∀ k, v.ownBlock = some k → ∃ cells, w.heap[k]? = some (.cells cells 88 (0, 0)) := fun k hk => own_typed h k hk
/-- A step of the program's heap leaves the reference's row alone. -/
theorem RRow.step {w w1 : World} {B B' p : Nat} {v v' vx : Value} {l x : List It} {sq : Int} (h : RRow w B vx x) (hh : IsHeap B' w p v l sq) (hs : Step B' p v v' w w1) : RRow w1 B vx x :=
  h.types hs.kept fun k cells hk hc => by
    rcases hk with rfl | hk
    · rw [hh.blk] at hc
      injection hc with hc
      injection hc with _ hc
      cases hc
    · obtain ⟨cells', hc'⟩ := row_type hh.row k hk
      rw [hc'] at hc
      injection hc with hc
      injection hc with _ hc
      cases hc
/-- A block of another type is left alone, too. -/
theorem blk_step {w w1 : World} {B' p : Nat} {v v' : Value} {l : List It} {sq : Int} {g : Nat} {cs : Array Value} {t : TypeId} (h : w.heap[g]? = some (.cells cs t (0, 0))) (hh : IsHeap B' w p v l sq) (hs : Step B' p v v' w w1) (h83 : t ≠ 83) (h88 : t ≠ 88) : w1.heap[g]? = some (.cells cs t (0, 0)) :=
  blk_kept h hs.kept fun hk => by
    rcases hk with rfl | hk
    · rw [hh.blk] at h
      injection h with h
      injection h with _ h
      exact h83 h.symm
    · obtain ⟨cells', hc'⟩ := row_type hh.row g hk
      rw [hc'] at h
      injection h with h
      injection h with _ h
      exact h88 h.symm

theorem rpush (B : Nat) (w : World) (vx : Value) (x : List It) (sq t d : Int) (h : RRow w B vx x) (hB : B ≤ w.heap.size) (hx : x.length ≤ 1000) (h0 : 0 ≤ sq) (h1 : sq ≤ 1000000) :
    Calls Try.prog 45 #[.agg #[vx, .int .u64 sq], .int .u64 t, .int .i64 d] w fun e w' => ∃ A n c, e = .returned (.agg #[.slice A n c, .int .u64 (sq + 1)]) ∧ RRow w' B (.slice A n c) (ins x ⟨t, sq, d⟩) ∧ Below w.heap.size w w' := by
  obtain ⟨A, c, rfl, hl, hc⟩ := h.slice
  have := shunterref09_Push.calls (x.length + 1) A c (x.map s7) sq t d _ _ w hc (by rw [List.length_map]; exact hl) (push_f x hx t sq d h0 h1)
  rw [List.length_map] at this
  exact this.mono fun e w' ⟨v', h1, h2, h3⟩ => by
    obtain ⟨A', c', rfl⟩ := Kd.R_slice h2
    exact ⟨A', _, c', h1, Kd.R_lower h2 hB, h3⟩
theorem rcancel (B : Nat) (w : World) (vx : Value) (x : List It) (sq s : Int) (h : RRow w B vx x) (hB : B ≤ w.heap.size) (hx : x.length ≤ 1000) :
    Calls Try.prog 46 #[.agg #[vx, .int .u64 sq], .int .u64 s] w fun e w' => ∃ A n c, e = .returned (.tuple #[.agg #[.slice A n c, .int .u64 sq], .bool (decide ((del x s).length < x.length))]) ∧ RRow w' B (.slice A n c) (del x s) ∧ Below w.heap.size w w' := by
  obtain ⟨A, c, rfl, hl, hc⟩ := h.slice
  have := shunterref09_Cancel.calls (x.length + 1) A c (x.map s7) sq s _ _ _ w hc (by rw [List.length_map]; exact hl) (cancel_f x hx s sq)
  rw [List.length_map] at this
  exact this.mono fun e w' ⟨v', h1, h2, h3⟩ => by
    obtain ⟨A', c', rfl⟩ := Kd.R_slice h2
    exact ⟨A', _, c', h1, Kd.R_lower h2 hB, h3⟩
theorem RRow.only {w : World} {B : Nat} {v : Value} {x : List It} (h : RRow w B v x) : Kd.R k107 107 w B (fun k => v.ownBlock = some k) v (x.map s7) := by
  obtain ⟨h0, inner, ho, hr⟩ := h
  refine ⟨fun k hk => hk, inner, ho, hr.imp_ (fun _ _ hp => k107.M_mono (fun k hk => ?_) (k107.M_bound hp))⟩
  obtain ⟨_, _, _, q, hq, _⟩ := hk
  have e : k107.E = [] := rfl
  rw [e] at hq
  cases hq
theorem rwake (w0 w : World) (vx : Value) (x : List It) (sq now : Int) (h : RRow w w0.heap.size vx x) (hB : Below w0.heap.size w0 w) (hx : x.length ≤ 1000) :
    Calls Try.prog 47 #[.agg #[vx, .int .u64 sq], .int .u64 now] w fun e w' => ∃ A n c A2 n2 c2, e = .returned (.tuple #[.agg #[.slice A n c, .int .u64 sq], .slice A2 n2 c2]) ∧ RRow w' w0.heap.size (.slice A n c) (nw x now) ∧ RRow w' w0.heap.size (.slice A2 n2 c2) (wk x now) ∧ Below w0.heap.size w0 w' ∧ Kept w w' (fun k => vx.ownBlock = some k) :=
  (shunterref09_Wake.calls (x.length + 1) (fun k => vx.ownBlock = some k) vx (x.map s7) sq now _ _ _ w0 w hB h.only (wake_f x hx now sq)).mono fun e w' ⟨v', v2, h1, h2, h3, h4, h5⟩ => by
    obtain ⟨A', c', rfl⟩ := Kd.R_slice h2
    obtain ⟨A2, c2, rfl⟩ := Kd.R_slice h3
    exact ⟨A', _, c', A2, _, c2, h1, Kd.R_mono h2 (fun _ _ => trivial), Kd.R_mono h3 (fun _ _ => trivial), h4, h5⟩

theorem Row.reads {w : World} {B : Nat} {A : Option Addr} {n c : Nat} {l : List It} (h : Row w B (.slice A n c) l) : n = l.length ∧ n ≤ c ∧ Kd.C k88 w A (l.map s8).length (l.map s8) := by
  obtain ⟨A', c', e⟩ := own_slice h
  injection e with e1 e2 e3
  subst e1 e2 e3
  rcases Nat.eq_zero_or_pos l.length with h0 | h0
  · have e : l = [] := List.eq_nil_of_length_eq_zero h0
    subst e
    exact ⟨rfl, by simp, rfl, by simp, fun h => by simp at h⟩
  · obtain ⟨gr, cap, e, hc, _, _, hcell, _⟩ := h.form h0
    injection e with e1 e2 e3
    subst e1 e3
    have hm : l.length ≤ 9223372036854775807 := by
      rcases h.2 with ⟨e, _⟩ | ⟨_, _, _, e, _, _, h1, h2, _⟩
      · cases e
      · injection e with _ _ e
        subst e
        unfold maxLen at h2
        omega
    refine ⟨rfl, hc, rfl, by rw [List.length_map]; exact hm, fun _ => ⟨⟨gr, 0, none⟩, rfl, fun j p hj => ?_⟩⟩
    have hj' : j < l.length := by
      rcases Nat.lt_or_ge j l.length with h | h
      · exact h
      · rw [List.getElem?_eq_none (by rw [List.length_map]; exact h)] at hj; cases hj
    have ep : p = s8 (g l j) := by
      rw [List.getElem?_map, List.getElem?_eq_getElem hj'] at hj
      injection hj with hj
      rw [← hj]
      unfold g
      rw [List.getD_eq_getElem?_getD, List.getElem?_eq_getElem hj']
      rfl
    subst ep
    obtain ⟨i0, i1, i2⟩ := hcell j hj'
    refine ⟨_, rfl, k88_mk w _, fun i u hu => ?_⟩
    have hadd : ∀ k, (⟨gr, 0, none⟩ : Addr).add k = ⟨gr, k, none⟩ := fun k => by unfold Addr.add; split <;> simp_all
    have hsz : k88.sz = 3 := rfl
    rw [hadd, hsz]
    match i, hu with
    | 0, hu => injection hu with hu; subst hu; exact i0
    | 1, hu => injection hu with hu; subst hu; exact i1
    | 2, hu => injection hu with hu; subst hu; exact i2
theorem rsame (w : World) (B B' : Nat) (v vx : Value) (l x : List It) (h : Row w B v l) (hx : RRow w B' vx x) (e : l = x) (hl : x.length ≤ 1000) : Calls Try.prog 48 #[v, vx] w fun e w' => e = .returned (.bool true) ∧ ∃ n, w' = w.drewN n := by
  subst e
  obtain ⟨A, c, rfl⟩ := own_slice h
  obtain ⟨_, h2, h3⟩ := h.reads
  obtain ⟨A1, c1, rfl, k2, k3⟩ := hx.slice
  have := shunterlaw09_same.calls (l.length + 1) A c (l.map s8) A1 c1 (l.map s7) true w h3 (by rw [List.length_map]; exact h2) k3 (by rw [List.length_map]; exact k2) (same_f l hl)
  rw [List.length_map, List.length_map] at this
  exact this.mono fun e w' ⟨h1, h2⟩ => ⟨h1, h2.out⟩
end Go.Proofs.Ythlllcmffgdcmab.Heap

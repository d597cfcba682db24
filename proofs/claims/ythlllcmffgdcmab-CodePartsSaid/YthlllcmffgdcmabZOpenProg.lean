/- Arguments opened: a program (rows of instructions, room of channels, locks, cases), by value. -/
import Derived.Test.YthlllcmffgdcmabZOpen
import Derived.Test.YthlllcmffgdcmabZOpenInts
import Derived.Test.YthlllcmffgdcmabZPCodeChecksx0
import Derived.Lib.SmallJoins
section
namespace Go.Proofs.Ythlllcmffgdcmab.OpenProg
open Go.ChangeShapes Go.WideShapes Go.Deep Go.RowKit Go.Proofs.YthlllcmffgdcmabW.PrintWords
open Go.Proofs.Ythlllcmffgdcmab.PCodeChecks
set_option linter.unusedVariables false
set_option linter.unusedSimpArgs false
theorem lt_of_some {A : Option Addr} {len j : Nat} {α : Type} {f : Nat → α} {p : α} (hj : ((List.range len).map f)[j]? = some p) : j < len ∧ p = f j := by
  have hjl : j < len := by
    rcases Nat.lt_or_ge j len with h | h
    · exact h
    · rw [List.getElem?_eq_none (by simp; exact h)] at hj; cases hj
  rw [List.getElem?_map, List.getElem?_range hjl] at hj
  injection hj with hj
  exact ⟨hjl, hj.symm⟩
theorem list128 (A : Option Addr) (len cap : Nat) (w : World) (F : Nat → Nat → Int) (hl : len ≤ cap) (hm : cap ≤ maxLen) (hn : A = none → len = 0 ∧ cap = 0)
    (hF : ∀ a, A = some a → ∀ i, i < cap → ∀ (j : Nat) k, [IntKind.i64, IntKind.i64, IntKind.i64, IntKind.i64][j]? = some k → w.cell? (a.add (i * 4 + j)) = some (.int k (F i j)) ∧ (Lit.int k (F i j)).wf = true) :
    ∃ l : List S128, l.length = len ∧ Kd.C k128 w A l.length l := by
  refine ⟨(List.range len).map fun i => ⟨F i 0, F i 1, F i 2, F i 3⟩, by simp, rfl, by simp; unfold maxLen at hm; omega, fun h0 => ?_⟩
  simp only [List.length_map, List.length_range] at h0
  cases A with
  | none => have := (hn rfl).1; omega
  | some a =>
    refine ⟨a, rfl, fun j p hj => ?_⟩
    obtain ⟨hjl, rfl⟩ := lt_of_some (A := none) hj
    refine ⟨_, rfl, k128_mk w _, fun i u hu => ?_⟩
    have hsz : k128.sz = 4 := rfl
    rw [hsz]
    match i, hu with
    | 0, hu => injection hu with hu; subst hu; exact (hF a rfl j (by omega) 0 .i64 rfl).1
    | 1, hu => injection hu with hu; subst hu; exact (hF a rfl j (by omega) 1 .i64 rfl).1
    | 2, hu => injection hu with hu; subst hu; exact (hF a rfl j (by omega) 2 .i64 rfl).1
    | 3, hu => injection hu with hu; subst hu; exact (hF a rfl j (by omega) 3 .i64 rfl).1
theorem list134 (A : Option Addr) (len cap : Nat) (w : World) (F : Nat → Nat → Int) (hl : len ≤ cap) (hm : cap ≤ maxLen) (hn : A = none → len = 0 ∧ cap = 0)
    (hF : ∀ a, A = some a → ∀ i, i < cap → ∀ (j : Nat) k, [IntKind.i64, IntKind.i64, IntKind.i64][j]? = some k → w.cell? (a.add (i * 3 + j)) = some (.int k (F i j)) ∧ (Lit.int k (F i j)).wf = true) :
    ∃ l : List S134, l.length = len ∧ Kd.C k134 w A l.length l := by
  refine ⟨(List.range len).map fun i => ⟨F i 0, F i 1, F i 2⟩, by simp, rfl, by simp; unfold maxLen at hm; omega, fun h0 => ?_⟩
  simp only [List.length_map, List.length_range] at h0
  cases A with
  | none => have := (hn rfl).1; omega
  | some a =>
    refine ⟨a, rfl, fun j p hj => ?_⟩
    obtain ⟨hjl, rfl⟩ := lt_of_some (A := none) hj
    refine ⟨_, rfl, k134_mk w _, fun i u hu => ?_⟩
    have hsz : k134.sz = 3 := rfl
    rw [hsz]
    match i, hu with
    | 0, hu => injection hu with hu; subst hu; exact (hF a rfl j (by omega) 0 .i64 rfl).1
    | 1, hu => injection hu with hu; subst hu; exact (hF a rfl j (by omega) 1 .i64 rfl).1
    | 2, hu => injection hu with hu; subst hu; exact (hF a rfl j (by omega) 2 .i64 rfl).1
theorem list_int (A : Option Addr) (len cap : Nat) (w : World) (F : Nat → Int) (hl : len ≤ cap) (hm : cap ≤ maxLen) (hn : A = none → len = 0 ∧ cap = 0)
    (hF : ∀ a, A = some a → ∀ i, i < cap → w.cell? (a.add i) = some (.int .i64 (F i)) ∧ (Lit.int .i64 (F i)).wf = true) :
    ∃ l : List Int, l.length = len ∧ Kd.C (Kd.int .i64) w A l.length l := by
  refine ⟨(List.range len).map F, by simp, rfl, by simp; unfold maxLen at hm; omega, fun h0 => ?_⟩
  simp only [List.length_map, List.length_range] at h0
  cases A with
  | none => have := (hn rfl).1; omega
  | some a =>
    refine ⟨a, rfl, fun j p hj => ?_⟩
    obtain ⟨hjl, rfl⟩ := lt_of_some (A := none) hj
    refine ⟨_, rfl, rfl, fun i u hu => ?_⟩
    have hsz : (Kd.int .i64).sz = 1 := rfl
    rw [hsz]
    match i, hu with
    | 0, hu => injection hu with hu; subst hu; have := (hF a rfl j (by omega)).1; simpa using this
section
variable {H : Type} {enc : TypeId × Value → H} {W : World} {base : Nat} {spare : Nat → Bool} {held : Bool} {fuel : Nat} {V : Value} {x : DataW H × List MemPlace}
theorem slice_size {t e : TypeId} {A : Option Addr} {len cap : Nat} (ht : Try.prog.underlying t = some (.slice e)) (h : DataW.trod enc Try.prog W base spare held fuel t [.slice A len cap] = some x) (hsz : ∀ n ∈ x.1.weights Try.prog t, n ≤ reachBytes) : len * Try.prog.bytesOf e ≤ reachBytes := by
  rcases open_slice ht h with ⟨h1, h2⟩ | ⟨a, len', cap', m, n, D, Pl, h1, hb, hl, hm, hmm, rfl, hi⟩
  · simp at h1
    rw [h1.2.1, Nat.zero_mul]
    exact Nat.zero_le _
  · simp at h1
    obtain ⟨rfl, rfl, rfl⟩ := h1
    have := hsz _ (by simp only [DataW.weights, ht]; exact List.mem_cons_self)
    simp only [List.length_map, List.length_range] at this
    exact Nat.le_trans (Nat.mul_le_mul_right _ (Nat.le_add_right _ _)) this
theorem leaf128 (hs : ∀ b, spare b = true) (h : DataW.trod enc Try.prog W base spare held fuel 125 [V] = some x) (hsz : ∀ n ∈ x.1.weights Try.prog 125, n ≤ reachBytes) : ∃ A c l, V = .slice A (List.length l) c ∧ l.length ≤ c ∧ Kd.C k128 W A l.length l ∧ l.length ≤ 4398046511104 := by
  obtain ⟨A, len, c, e⟩ := Go.Joins.slice_form Try.underlying125 h
  injection e with e _
  subst e
  have hz := slice_size Try.underlying125 h hsz
  rw [show Try.prog.bytesOf 128 = 32 by kernel_rfl] at hz
  obtain ⟨hl, hm, hn, F, hF⟩ := Open.int_structs (d := x.1) (p := x.2) [.i64, .i64, .i64, .i64] Try.underlying125 Try.underlying128 (by kernel_rfl) (by kernel_rfl) (fun j k hj => by match j with | 0 => cases hj; exact ⟨_, rfl, by kernel_rfl⟩ | 1 => cases hj; exact ⟨_, rfl, by kernel_rfl⟩ | 2 => cases hj; exact ⟨_, rfl, by kernel_rfl⟩ | 3 => cases hj; exact ⟨_, rfl, by kernel_rfl⟩ | _ + 4 => simp at hj) hs ⟨fuel, by simpa [Value.cells] using h⟩
  obtain ⟨l, hll, hlk⟩ := list128 A len c W F hl hm hn hF
  unfold reachBytes at hz
  exact ⟨A, c, l, by rw [hll], by omega, hlk, by omega⟩
theorem leaf134 (hs : ∀ b, spare b = true) (h : DataW.trod enc Try.prog W base spare held fuel 110 [V] = some x) (hsz : ∀ n ∈ x.1.weights Try.prog 110, n ≤ reachBytes) : ∃ A c l, V = .slice A (List.length l) c ∧ l.length ≤ c ∧ Kd.C k134 W A l.length l ∧ l.length ≤ 5864062014805 := by
  obtain ⟨A, len, c, e⟩ := Go.Joins.slice_form Try.underlying110 h
  injection e with e _
  subst e
  have hz := slice_size Try.underlying110 h hsz
  rw [show Try.prog.bytesOf 134 = 24 by kernel_rfl] at hz
  obtain ⟨hl, hm, hn, F, hF⟩ := Open.int_structs (d := x.1) (p := x.2) [.i64, .i64, .i64] Try.underlying110 Try.underlying134 (by kernel_rfl) (by kernel_rfl) (fun j k hj => by match j with | 0 => cases hj; exact ⟨_, rfl, by kernel_rfl⟩ | 1 => cases hj; exact ⟨_, rfl, by kernel_rfl⟩ | 2 => cases hj; exact ⟨_, rfl, by kernel_rfl⟩ | _ + 3 => simp at hj) hs ⟨fuel, by simpa [Value.cells] using h⟩
  obtain ⟨l, hll, hlk⟩ := list134 A len c W F hl hm hn hF
  unfold reachBytes at hz
  exact ⟨A, c, l, by rw [hll], by omega, hlk, by omega⟩
theorem leaf_int (hs : ∀ b, spare b = true) (h : DataW.trod enc Try.prog W base spare held fuel 43 [V] = some x) (hsz : ∀ n ∈ x.1.weights Try.prog 43, n ≤ reachBytes) : ∃ A c l, V = .slice A (List.length l) c ∧ l.length ≤ c ∧ Kd.C (Kd.int .i64) W A l.length l ∧ l.length < 17592186044416 := by
  obtain ⟨A, len, c, e⟩ := Go.Joins.slice_form Try.underlying43 h
  injection e with e _
  subst e
  have hz := slice_size Try.underlying43 h hsz
  rw [show Try.prog.bytesOf 3 = 8 by kernel_rfl] at hz
  obtain ⟨hl, hm, hn, F, hF⟩ := Open.ints (d := x.1) (p := x.2) Try.underlying43 Try.underlying3 (by kernel_rfl) hs ⟨fuel, by simpa [Value.cells] using h⟩
  obtain ⟨l, hll, hlk⟩ := list_int A len c W F hl hm hn hF
  unfold reachBytes at hz
  exact ⟨A, c, l, by rw [hll], by omega, hlk, by omega⟩
theorem weights_all {e : TypeId} : ∀ {ds : List (DataW H)} {d : DataW H}, d ∈ ds → ∀ n ∈ d.weights Try.prog e, n ∈ DataW.weightsAll Try.prog e ds
  | d0 :: ds, d, hd, n, hn => by
    rw [DataW.weightsAll]
    rcases List.mem_cons.1 hd with rfl | h
    · exact List.mem_append_left _ hn
    · exact List.mem_append_right _ (weights_all h n hn)
theorem leaf_rows (hs : ∀ b, spare b = true) (h : DataW.trod enc Try.prog W base spare held fuel 109 [V] = some x) (hsz : ∀ n ∈ x.1.weights Try.prog 109, n ≤ reachBytes) : ∃ A c l, V = .slice A (List.length l) c ∧ l.length ≤ c ∧ Kd.C (Kd.slice 128 k128) W A l.length l ∧ l.length ≤ 5864062014805 ∧ ∀ f ∈ l, List.length f ≤ 4398046511104 := by
  obtain ⟨A, len, c, e⟩ := Go.Joins.slice_form Try.underlying109 h
  injection e with e _
  subst e
  have hz := slice_size Try.underlying109 h hsz
  rw [show Try.prog.bytesOf 125 = 24 by kernel_rfl] at hz
  unfold reachBytes at hz
  rcases open_slice1 Try.underlying109 (by kernel_rfl) h with ⟨h1, h2⟩ | ⟨a, len', cap', m, n, U, D, Pl, h1, hb, hl, hm, hmm, rfl, hi⟩
  · simp at h1
    obtain ⟨rfl, rfl, rfl⟩ := h1
    exact ⟨none, 0, [], rfl, Nat.le_refl _, ⟨rfl, by decide, fun h => absurd h (by decide)⟩, by decide, fun f hf => absurd hf (by simp)⟩
  · simp at h1
    obtain ⟨rfl, rfl, rfl⟩ := h1
    rw [hs, if_pos rfl] at hmm
    subst hmm
    have hall : ∀ i, ∃ l : List S128, i < len → ∃ A' c', W.cell? (a.add i) = some (.slice A' l.length c') ∧ l.length ≤ c' ∧ Kd.C k128 W A' l.length l ∧ l.length ≤ 4398046511104 := fun i => by
      by_cases hil : i < len
      · obtain ⟨hc, ht⟩ := hi i (by omega)
        obtain ⟨A', c', l, e1, e2, e3, e4⟩ := leaf128 hs ht (fun n hn => hsz n (by
          simp only [DataW.weights, Try.underlying109]
          refine List.mem_cons_of_mem _ (List.mem_append_left _ (weights_all ?_ n hn))
          exact List.mem_map.2 ⟨i, List.mem_range.2 hil, rfl⟩))
        exact ⟨l, fun _ => ⟨A', c', by rw [hc, e1], e2, e3, e4⟩⟩
      · exact ⟨[], fun h => absurd h hil⟩
    refine ⟨some a, m, (List.range len).map fun i => Classical.choose (hall i), by simp, by simp; omega, ⟨rfl, by simp; omega, fun _ => ⟨a, rfl, fun j p hj => ?_⟩⟩, by simp; omega, fun f hf => ?_⟩
    · obtain ⟨hjl, rfl⟩ := lt_of_some (A := none) hj
      obtain ⟨A', c', e1, e2, e3, e4⟩ := Classical.choose_spec (hall j) hjl
      refine ⟨[_], rfl, ⟨A', c', rfl, e2, e3⟩, fun i u hu => ?_⟩
      have hz1 : (Kd.slice 128 k128).sz = 1 := rfl
      rw [hz1]
      match i, hu with
      | 0, hu => injection hu with hu; subst hu; simpa using e1
    · obtain ⟨i, hir, rfl⟩ := List.mem_map.1 hf
      obtain ⟨A', c', e1, e2, e3, e4⟩ := Classical.choose_spec (hall i) (List.mem_range.1 hir)
      exact e4
set_option maxRecDepth 100000 in
theorem open_prog {r : Reach} {b0 : Nat} {v : Value} {d : DataW H} {p : List MemPlace} (hs : ∀ b, spare b = true) (hv : Value.okWide Try.prog W r b0 112 v) (h : DataW.Trod enc Try.prog W base spare held 112 v d p) (hsz : ∀ n ∈ d.weights Try.prog 112, n ≤ reachBytes) :
    ∃ (A0 A1 A3 : Option Addr) (c0 c1 c3 : Nat) (l0 : List (List S128)) (l1 : List Int) (l3 : List S134) (locks : Int), v = .agg #[.slice A0 l0.length c0, .slice A1 l1.length c1, .int .i64 locks, .slice A3 l3.length c3] ∧
      (Kd.C (Kd.slice 128 k128) W A0 l0.length l0 ∧ l0.length ≤ c0 ∧ Kd.C (Kd.int .i64) W A1 l1.length l1 ∧ l1.length ≤ c1 ∧ Kd.C k134 W A3 l3.length l3 ∧ l3.length ≤ c3) ∧
      l0.length ≤ 5864062014805 ∧ (∀ f ∈ l0, List.length f ≤ 4398046511104) ∧ l1.length < 17592186044416 ∧ l3.length ≤ 5864062014805 := by
  obtain ⟨v0, v1, v2, v3, y0, y1, y2, y3, n, rfl, rfl, rfl, g0, g1, g2, g3⟩ := Go.Joins.open_agg4 Try.underlying112 (by kernel_rfl) (by kernel_rfl) hv h
  have hw : ∀ n ∈ DataW.weightsEach Try.prog [109, 43, 3, 110] [y0.1, y1.1, y2.1, y3.1], n ≤ reachBytes := fun n hn => hsz n (by simp only [DataW.weights, Try.underlying112]; exact hn)
  obtain ⟨A0, c0, l0, rfl, a1, a2, a3, a4⟩ := leaf_rows hs g0 (fun n hn => hw n (DataW.weights_mem_each (j := 0) rfl rfl n hn))
  obtain ⟨A1, c1, l1, rfl, b1, b2, b3⟩ := leaf_int hs g1 (fun n hn => hw n (DataW.weights_mem_each (j := 1) rfl rfl n hn))
  obtain ⟨z, hz, _, _⟩ := DataW.trod_int Try.underlying3 g2
  simp only [List.cons.injEq, and_true] at hz
  subst hz
  obtain ⟨A3, c3, l3, rfl, e1, e2, e3⟩ := leaf134 hs g3 (fun n hn => hw n (DataW.weights_mem_each (j := 3) rfl rfl n hn))
  exact ⟨A0, A1, A3, c0, c1, c3, l0, l1, l3, z, rfl, ⟨a2, a1, b2, b1, e2, e1⟩, a3, a4, b3, e3⟩
set_option maxRecDepth 100000 in
theorem open_case {r : Reach} {b0 : Nat} {v : Value} {d : DataW H} {p : List MemPlace} (hv : Value.okWide Try.prog W r b0 134 v) (h : DataW.Trod enc Try.prog W base spare held 134 v d p) :
    ∃ c : S134, v = .agg #[.int .i64 c.f0, .int .i64 c.f1, .int .i64 c.f2] := by
  obtain ⟨v0, v1, v2, y0, y1, y2, n, rfl, rfl, rfl, g0, g1, g2⟩ := Go.Joins.open_agg3 Try.underlying134 (by kernel_rfl) (by kernel_rfl) hv h
  obtain ⟨x, hx, _, _⟩ := DataW.trod_int Try.underlying3 g0
  obtain ⟨y, hy, _, _⟩ := DataW.trod_int Try.underlying3 g1
  obtain ⟨z, hz, _, _⟩ := DataW.trod_int Try.underlying3 g2
  simp only [List.cons.injEq, and_true] at hx hy hz
  subst hx hy hz
  exact ⟨⟨x, y, z⟩, rfl⟩
end
end Go.Proofs.Ythlllcmffgdcmab.OpenProg
end

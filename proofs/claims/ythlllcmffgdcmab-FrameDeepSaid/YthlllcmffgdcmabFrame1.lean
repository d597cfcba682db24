import Derived.Test.YthlllcmffgdcmabFrame0
import Derived.ArgAppend
import Derived.Outline
import Derived.Deep.AppendLies
namespace Go.Proofs.Ythlllcmffgdcmab.Frame
open Go.RowKit Go.Proofs.YthlllcmffgdcmabW.PrintWords Go.Proofs.YthlllcmffgdcmabW.PrintLast Go.Proofs.YthlllcmffgdcmabW.PrintMore
set_option linter.unusedVariables false
set_option linter.unusedSimpArgs false

/-- A stack of n frames, eleven numbers each, in a row of its own. -/
def Stk (w : World) (B : Nat) (v : Value) (n : Nat) (xs : List Int) : Prop := xs.length = n * 11 ∧ w.ownsRow B 70 11 v n (nums .i64 xs)
theorem Stk.below {w w' : World} {B : Nat} {v : Value} {n : Nat} {xs : List Int} (h : Stk w B v n xs) (hb : Below w.heap.size w w') : Stk w' B v n xs := ⟨h.1, pw_own_below h.2 hb⟩
theorem Stk.lower {w : World} {B B' : Nat} {v : Value} {n : Nat} {xs : List Int} (h : Stk w B v n xs) (hb : B' ≤ B) : Stk w B' v n xs := ⟨h.1, own_weaken h.2 hb⟩
/-- One that isn't empty: where it lies. -/
theorem Stk.form {w : World} {B : Nat} {v : Value} {n : Nat} {xs : List Int} (h : Stk w B v n xs) (hn : 0 < n) : ∃ g cap, v = .slice (some ⟨g, 0, none⟩) n cap ∧ n ≤ cap ∧ B ≤ g ∧ g < w.heap.size ∧
    (∀ j, j < n * 11 → w.cell? ⟨g, j, none⟩ = some (.int .i64 (rd xs j))) ∧ (∀ j, w.frozen? ⟨g, j, none⟩ = false) := by
  obtain ⟨hx, hl, h2⟩ := h
  rcases h2 with ⟨_, h0⟩ | ⟨g, cap, cur, rfl, hb, hh, hc, hm, hs, ht⟩
  · omega
  · refine ⟨g, cap, rfl, hc, hb, blk_lt hh, fun j hj => ?_, fun j => blk_frozen hh j⟩
    rw [blk_cell hh j]
    have h1 : (cur.toList.take (n * 11))[j]? = (nums .i64 xs)[j]? := by rw [ht]
    rw [List.getElem?_take_of_lt hj, Array.getElem?_toList] at h1
    rw [h1]
    simp only [nums, List.getElem?_map, rd, Int.toNat_natCast, List.getD_eq_getElem?_getD]
    rw [List.getElem?_eq_getElem (by omega)]
    rfl

/-- A frame. -/
def fr (f a : Int) (into : Int) : List Int := [f, 0, a, 0, 0, 0, 0, 0, 0, 0, into]
def frV (f a into : Int) : Array Value := #[.int .i64 f, .int .i64 0, .int .i64 a, .int .i64 0, .int .i64 0, .int .i64 0, .int .i64 0, .int .i64 0, .int .i64 0, .int .i64 0, .int .i64 into]
theorem info70 : (Try.prog.info? 70).map (fun i => (i.zero, i.size, i.bytes)) = some (some (.agg (frV 0 0 0)), 11, 88) := by kernel_rfl

set_option maxHeartbeats 1000000 in
set_option maxRecDepth 100000 in
theorem begin_calls (f a : Int) (w : World) : Calls Try.prog 33 #[.int .i64 f, .int .i64 a] w fun e w' => e = .returned (.slice (some ⟨w.heap.size, 0, none⟩) 1 1) ∧ w' = w.alloc (.cells (frV f a 0) 70) := by
  go_enter Try.func33, Try.ntmps33
  go_wp2
  go_ret
  exact ⟨rfl, rfl⟩

set_option maxHeartbeats 1000000 in
theorem top_calls (g n cap : Nat) (w : World) (hn : 0 < n) (hm : n ≤ 1000) : Calls Try.prog 36 #[.slice (some ⟨g, 0, none⟩) n cap] w fun e w' => e = .returned (.pointer (some ⟨g, (n - 1) * 11, none⟩)) ∧ w = w' := by
  have h1 : ((n : Int) == 0) = false := by simp; omega
  have e1 : IntKind.i64.wrap ((n : Int) - 1) = ((n - 1 : Nat) : Int) := by rw [IntKind.wrap_i64]; omega
  have e2 : ((n : Int) - 1) = ((n - 1 : Nat) : Int) := by omega
  go_enter Try.func36, Try.ntmps36
  go_wp2
  go_ret
  exact ⟨rfl, rfl⟩
theorem top_nil (w : World) : Calls Try.prog 36 #[.slice none 0 0] w fun e w' => e = .returned (.pointer none) ∧ w = w' := by
  go_enter Try.func36, Try.ntmps36
  go_wp2
  go_ret
  exact ⟨rfl, rfl⟩

theorem nums_fr (f a into : Int) : nums .i64 (fr f a into) = (frV f a into).toList := rfl
theorem frV_size (f a into : Int) : (frV f a into).size = 11 := rfl
theorem frV_news (w : World) (f a into : Int) : ∀ j u, (nums .i64 (fr f a into))[j]? = some u → (w.alloc (.cells (frV f a into) 70)).cell? ((⟨w.heap.size, 0, none⟩ : Addr).add j) = some u := by
  intro j u hu
  rw [add_plain, blk_cell (blk_new w _)]
  rw [nums_fr, Array.getElem?_toList] at hu
  exact hu
theorem frV_one (f a into : Int) : ∀ u ∈ nums .i64 (fr f a into), u.oneCell' = true := by
  intro u hu
  obtain ⟨x, _, rfl⟩ := List.mem_map.1 hu
  rfl

theorem stk_olds {w : World} {B g n cap : Nat} {xs : List Int} (h : Stk w B (.slice (some ⟨g, 0, none⟩) n cap) n xs) (o : Obj) : ∀ j u, (nums .i64 xs)[j]? = some u → (w.alloc o).cell? ((⟨g, 0, none⟩ : Addr).add j) = some u := by
  intro j u hu
  have hj : j < n * 11 := by
    have := (List.getElem?_eq_some_iff.1 hu).1
    rw [nums_length, h.1] at this
    exact this
  obtain ⟨g', cap', e, _, _, _, hcell, _⟩ := h.form (by omega)
  injection e with e
  injection e with e
  injection e with e
  subst e
  rw [add_plain]
  refine pw_cell_below (below_alloc (Below.refl _ _) o) ((hcell j hj).trans ?_)
  rw [← hu]
  simp only [nums, List.getElem?_map, rd, Int.toNat_natCast, List.getD_eq_getElem?_getD]
  rw [List.getElem?_eq_getElem (by rw [h.1]; exact hj)]
  rfl

set_option maxHeartbeats 2000000 in
set_option maxRecDepth 100000 in
theorem call_calls (B : Nat) (v : Value) (n : Nat) (xs : List Int) (f a into : Int) (w : World) (h : Stk w B v n xs) (hn : 0 < n) (hm : n < 16) : Calls Try.prog 34 #[v, .int .i64 f, .int .i64 a, .int .i64 into] w fun e w' =>
    ∃ v', e = .returned (.tuple #[v', .bool true]) ∧ Stk w' w.heap.size v' (n + 1) (xs ++ fr f a into) ∧ Below w.heap.size w w' := by
  have H := Aside0.mk h
  obtain ⟨g, cap, rfl, hc, _, hg, hcell, _⟩ := h.form hn
  have h1 : ((16 : Int) ≤ (n : Int)) = False := by simp; omega
  have hcap : (n : Int) ≤ (cap : Int) := by omega
  have HC := Aside0.mk hcell
  have HL := Aside0.mk h.1
  clear h hcell
  obtain ⟨j0, hj0, hz0, hz1, hz2⟩ := info_parts info70
  go_enter Try.func34, Try.ntmps34
  go_wp2_with (at_builtin; refine wpList_append_grows _ rfl (.tmp 19) (.tmp 25) 63 rfl 70 j0 _ 11 88 Try.underlying63 hj0 hz0 hz1 hz2 rfl (by omega) (some ⟨g, 0, none⟩) n n (nums .i64 xs) rfl (fun h0 => by cases h0) (by rw [nums_length]; exact HL.out) (fun b hb => by cases hb; exact stk_olds H.out _) ⟨w.heap.size, 0, none⟩ 1 1 (nums .i64 (fr f a into)) rfl rfl (frV_news w f a into) (frV_one f a into) (by omega) (by unfold maxLen; omega) (by omega) ?_; intro v1 w1 hown hgr; have HO := Aside0.mk hown; have HG := Aside0.mk hgr; clear hown hgr)
  go_ret2
  refine ⟨v1, rfl, ⟨?_, ?_⟩, ?_⟩
  · rw [List.length_append, HL.out]; show n * 11 + 11 = _; omega
  · have := HO.out
    rw [← nums_append] at this
    exact own_weaken this (by simp)
  · exact (below_alloc (Below.refl w.heap.size w) _).grown HG.out (by simp) (fun k hk => by cases hk)
end Go.Proofs.Ythlllcmffgdcmab.Frame

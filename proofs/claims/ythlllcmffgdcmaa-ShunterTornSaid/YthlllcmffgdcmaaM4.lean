/- Texts of this claim, joined: Store0, Store1, Store2, Book0, Book1, Book2, Book3, Book4, BookPlain, Book5, Book6, Book7, Book8. -/
import Derived.Test.YthlllcmffgdcmaaPRecordReadsx0
import Derived.Test.YthlllcmffgdcmaaM3
import Derived.Test.YthlllcmffgdcmaaM2
import Derived.Test.YthlllcmffgdcmaaSome0
import Derived.Deep.RegionHeld3
import Derived.Deep.AppendLies
import Derived.Deep.QuietTactic
import Derived.BigQuiet
import Derived.Deep.RegionLaw
import Derived.StillTailTactics
namespace Go.Proofs.Ythlllcmffgdcmaa.Stores
open Go.RowKit Go.Proofs.YthlllcmffgdcmaaW.PrintWords Go.Proofs.YthlllcmffgdcmaaW.PrintLast Go.Proofs.YthlllcmffgdcmaaW.PrintMore
set_option linter.unusedVariables false
set_option linter.unusedSimpArgs false

/-- A store in memory: its bytes, how many are safe, the room, the calls ahead of a cut, whether it was cut; from block B on. -/
def IsStore (B : Nat) (w : World) (g : Nat) (xs : List Int) (safe room left : Int) (dead : Bool) : Prop :=
  B ≤ g ∧ ∃ v : Value, w.heap[g]? = some (.cells #[v, .int .i64 safe, .int .i64 room, .int .i64 left, .bool dead] 95 (0, 0)) ∧ w.ownsRow B 5 1 v xs.length (nums .u8 xs)

theorem new_calls (B : Nat) (room : Int) (hr : 0 ≤ room) (w : World) (hB : B ≤ w.heap.size) : Calls Try.prog 39 #[.int .i64 room] w fun e w' => ∃ g, e = .returned (.pointer (some ⟨g, 0, none⟩)) ∧ IsStore B w' g [] 0 room (-1) false ∧ Below w.heap.size w w' := by
  have hm : max room 0 = room := by omega
  go_enter Try.func39, Try.ntmps39
  go_wp2
  go_ret
  exact ⟨_, rfl, ⟨hB, .slice none 0 0, by simpa using blk_new w _, own_nil _ _ _ _⟩, below_alloc (Below.refl _ _) _⟩

/-- What a call that writes answers and leaves. -/
def cE (left : Int) (dead : Bool) : Int := if dead = true ∨ left = 0 then 8 else 0
def cL (left : Int) (dead : Bool) : Int := if dead = true ∨ left ≤ 0 then left else left - 1
def cD (left : Int) (dead : Bool) : Bool := dead || decide (left = 0)

set_option maxHeartbeats 4000000 in
set_option maxRecDepth 100000 in
theorem call_calls (B g : Nat) (xs : List Int) (safe room left : Int) (dead : Bool) (w : World) (h : IsStore B w g xs safe room left dead) (hl : left ≤ 9223372036854775807) (hB : B ≤ w.heap.size) :
    Calls Try.prog 61 #[.pointer (some ⟨g, 0, none⟩)] w fun e w' => e = .returned (.int .i64 (cE left dead)) ∧ IsStore B w' g xs safe room (cL left dead) (cD left dead) ∧ Below B w w' := by
  have HS := Aside0.mk h
  obtain ⟨hg, v, hb, ho⟩ := h
  have c3 : w.cell? ⟨g, 3, none⟩ = some (.int .i64 left) := (blk_cell hb 3).trans rfl
  have c4 : w.cell? ⟨g, 4, none⟩ = some (.bool dead) := (blk_cell hb 4).trans rfl
  have f3 := blk_frozen hb 3
  have f4 := blk_frozen hb 4
  have HB := Aside0.mk hb
  have HO := Aside0.mk ho
  have HN := Aside0.mk (own_ne HO.out HB.out (by decide))
  clear hb ho
  cases dead with
  | true =>
    rw [show cE left true = 8 from if_pos (Or.inl rfl), show cL left true = left from if_pos (Or.inl rfl), show cD left true = true from rfl]
    go_enter Try.func61, Try.ntmps61
    go_wp2
    go_ret
    exact ⟨rfl, ⟨hg, v, by simpa using blk_set HB.out 4 _, own_setCell HO.out HN.out _⟩, (Below.refl _ _).setCell hg _⟩
  | false =>
    by_cases h0 : left = 0
    · subst h0
      rw [show cE 0 false = 8 from rfl, show cL 0 false = 0 from rfl, show cD 0 false = true from rfl]
      go_enter Try.func61, Try.ntmps61
      go_wp2
      go_ret
      exact ⟨rfl, ⟨hg, v, by simpa using blk_set HB.out 4 _, own_setCell HO.out HN.out _⟩, (Below.refl _ _).setCell hg _⟩
    · rw [show cE left false = 0 from if_neg (by simp [h0]), show cD left false = false by simp [cD, h0]]
      have p1 : (left == 0) = false := by simpa using h0
      by_cases h1 : 0 < left
      · rw [show cL left false = left - 1 from if_neg (by simp; omega)]
        have p2 : decide (0 < left) = true := decide_eq_true h1
        have HW := Aside0.mk (show wrap64 (left - 1) = left - 1 by simp only [wrap64]; omega)
        clear h0
        go_enter Try.func61, Try.ntmps61
        go_wp2
        go_ret
        exact ⟨rfl, ⟨hg, v, by simpa [HW.out] using blk_set HB.out 3 _, own_setCell HO.out HN.out _⟩, (Below.refl _ _).setCell hg _⟩
      · rw [show cL left false = left from if_pos (Or.inr (by omega))]
        have p2 : decide (0 < left) = false := decide_eq_false h1
        clear h0 h1
        go_enter Try.func61, Try.ntmps61
        go_wp2
        go_ret
        exact ⟨rfl, HS.out, Below.refl _ _⟩
end Go.Proofs.Ythlllcmffgdcmaa.Stores

namespace Go.Proofs.Ythlllcmffgdcmaa.Stores
open Go.RowKit Go.Proofs.YthlllcmffgdcmaaW.PrintWords Go.Proofs.YthlllcmffgdcmaaW.PrintLast Go.Proofs.YthlllcmffgdcmaaW.PrintMore
set_option linter.unusedVariables false
set_option linter.unusedSimpArgs false
variable (B g : Nat) (xs : List Int) (safe room left : Int) (dead : Bool) (w : World) (h : IsStore B w g xs safe room left dead)
include h

theorem safe_calls : Calls Try.prog 50 #[.pointer (some ⟨g, 0, none⟩)] w fun e w' => e = .returned (.int .i64 safe) ∧ w' = w := by
  obtain ⟨hg, v, hb, ho⟩ := h
  have c1 : w.cell? ⟨g, 1, none⟩ = some (.int .i64 safe) := (blk_cell hb 1).trans rfl
  clear hb ho
  go_enter Try.func50, Try.ntmps50
  go_wp2
  go_ret
  exact ⟨rfl, rfl⟩

theorem len_calls : Calls Try.prog 48 #[.pointer (some ⟨g, 0, none⟩)] w fun e w' => e = .returned (.int .i64 xs.length) ∧ w' = w := by
  obtain ⟨hg, v, hb, ho⟩ := h
  obtain ⟨A1, c1, rfl⟩ := own_slice ho
  have c0 : w.cell? ⟨g, 0, none⟩ = some (.slice A1 xs.length c1) := (blk_cell hb 0).trans rfl
  clear hb ho
  go_enter Try.func48, Try.ntmps48
  go_wp2
  go_ret
  exact ⟨rfl, rfl⟩

theorem bytes_calls : Calls Try.prog 47 #[.pointer (some ⟨g, 0, none⟩)] w fun e w' => e = .returned (.string (strOfNums xs)) ∧ w' = w := by
  obtain ⟨hg, v, hb, ho⟩ := h
  have hcv := own_string (P := Try.prog) Try.underlying59 Try.underlying5 Try.underlying9 ho
  have c0 : w.cell? ⟨g, 0, none⟩ = some v := (blk_cell hb 0).trans rfl
  clear hb ho
  go_enter Try.func47, Try.ntmps47
  go_wp2
  go_ret
  exact ⟨rfl, rfl⟩

set_option maxHeartbeats 4000000 in
theorem sync_calls (hl : left ≤ 9223372036854775807) (hB : B ≤ w.heap.size) : Calls Try.prog 60 #[.pointer (some ⟨g, 0, none⟩)] w fun e w' =>
    e = .returned (.int .i64 (cE left dead)) ∧ IsStore B w' g xs (if cE left dead = 0 then (xs.length : Int) else safe) room (cL left dead) (cD left dead) ∧ Below B w w' := by
  have HS := Aside0.mk h
  have hE : cE left dead = 8 ∨ cE left dead = 0 := by unfold cE; split <;> simp
  clear h
  rcases hE with hE | hE
  · rw [hE, if_neg (by decide)]
    go_enter Try.func60, Try.ntmps60
    go_wp2_with (first
      | (go_at_call 61; (with_reducible refine (call_calls B g xs safe room left dead w HS.out hl hB).mono ?_); rintro e w1 ⟨rfl, hs, hb⟩; (rw [hE]; have HS1 := Aside0.mk hs; have HB1 := Aside0.mk hb; clear hs hb)))
    go_ret
    exact ⟨rfl, HS1.out, HB1.out⟩
  · rw [hE, if_pos rfl]
    go_enter Try.func60, Try.ntmps60
    go_wp2_with (first
      | (go_at_call 61; (with_reducible refine (call_calls B g xs safe room left dead w HS.out hl hB).mono ?_); rintro e w1 ⟨rfl, hs, hb⟩; rw [hE]; (obtain ⟨hg, v, hh, ho⟩ := hs); (obtain ⟨A1, cc1, rfl⟩ := own_slice ho); (have c0 : w1.cell? ⟨g, 0, none⟩ = some (.slice A1 xs.length cc1) := (blk_cell hh 0).trans rfl); (have c1 := (blk_cell hh 1).trans rfl; have f1 := blk_frozen hh 1; have HH := Aside0.mk hh; have HO := Aside0.mk ho; have HB1 := Aside0.mk hb; clear hh ho hb)))
    go_ret
    exact ⟨rfl, ⟨hg, _, by simpa using blk_set HH.out 1 _, own_setCell HO.out (own_ne HO.out HH.out (by decide)) _⟩, HB1.out.setCell hg _⟩
end Go.Proofs.Ythlllcmffgdcmaa.Stores

namespace Go.Proofs.Ythlllcmffgdcmaa.Stores
open Go.RowKit Go.Proofs.YthlllcmffgdcmaaW.PrintWords Go.Proofs.YthlllcmffgdcmaaW.PrintLast Go.Proofs.YthlllcmffgdcmaaW.PrintMore
set_option linter.unusedVariables false
set_option linter.unusedSimpArgs false
theorem info5 : (Try.prog.info? 5).map (fun i => (i.zero, i.size, i.bytes)) = some (some (.int .u8 0), 1, 1) := by kernel_rfl
variable (B g : Nat) (xs : List Int) (safe room left : Int) (dead : Bool) (w : World) (h : IsStore B w g xs safe room left dead)
include h

set_option maxHeartbeats 4000000 in
theorem append_cut (y : ByteArray) (hE : cE left dead = 8) (hl : left ≤ 9223372036854775807) (hB : B ≤ w.heap.size) : Calls Try.prog 45 #[.pointer (some ⟨g, 0, none⟩), .string y] w fun e w' =>
    e = .returned (.int .i64 8) ∧ IsStore B w' g xs safe room (cL left dead) (cD left dead) ∧ Below B w w' := by
  have HS := Aside0.mk h
  clear h
  go_enter Try.func45, Try.ntmps45
  go_wp2_with (first
    | (go_at_call 61; (with_reducible refine (call_calls B g xs safe room left dead w HS.out hl hB).mono ?_); rintro e w1 ⟨rfl, hs, hb⟩; rw [hE]; have HS1 := Aside0.mk hs; have HB1 := Aside0.mk hb; clear hs hb))
  go_ret
  exact ⟨rfl, HS1.out, HB1.out⟩

set_option maxHeartbeats 4000000 in
theorem append_ok (y : ByteArray) (hE : cE left dead = 0) (hl : left ≤ 9223372036854775807) (hB : B ≤ w.heap.size) (hr : (xs.length : Int) + y.size ≤ room) (hr2 : room ≤ 1000000) : Calls Try.prog 45 #[.pointer (some ⟨g, 0, none⟩), .string y] w fun e w' =>
    e = .returned (.int .i64 0) ∧ IsStore B w' g (xs ++ bytesOf y) safe room (cL left dead) (cD left dead) ∧ Below B w w' := by
  have HS := Aside0.mk h
  clear h
  have q1 : decide (room - (xs.length : Int) < (y.size : Int)) = false := decide_eq_false (by omega)
  have q2 : wrap64 (room - (xs.length : Int)) = room - (xs.length : Int) := by clear q1; simp only [wrap64]; omega
  have HLN := Aside0.mk (show xs.length + y.size ≤ 140737488355328 by clear q1 q2; omega)
  go_enter Try.func45, Try.ntmps45
  go_wp2_with (first
    | (go_at_call 61; (with_reducible refine (call_calls B g xs safe room left dead w HS.out hl hB).mono ?_); rintro e w1 ⟨rfl, hs, hb⟩; rw [hE]; obtain ⟨hg, v, hh, ho⟩ := hs; obtain ⟨A1, cc1, rfl⟩ := own_slice ho; have c0 : w1.cell? ⟨g, 0, none⟩ = some (.slice A1 xs.length cc1) := (blk_cell hh 0).trans rfl; have c2 : w1.cell? ⟨g, 2, none⟩ = some (.int .i64 room) := (blk_cell hh 2).trans rfl; have HH := Aside0.mk hh; have HO := Aside0.mk ho; have HB1 := Aside0.mk hb; clear hh ho hb))
  go_region_held3 (fun w' => w'.cell? ⟨g, 0, none⟩ = some (.slice A1 xs.length cc1) ∧ w'.cell? ⟨g, 2, none⟩ = some (.int .i64 room)) (go_keep) (fail)
  have HOd := Aside0.mk (show w1.drew.ownsRow B 5 1 (.slice A1 xs.length cc1) xs.length (nums .u8 xs) from HO.out)
  have HHd := Aside0.mk (blk_drew HH.out)
  have HBd := Aside0.mk (HB1.out.drew)
  generalize w1.drew = wd at HOd HHd HBd ⊢
  have c0 : wd.cell? ⟨g, 0, none⟩ = some (.slice A1 xs.length cc1) := (blk_cell HHd.out 0).trans rfl
  have q3 : IntKind.i64.wrap (room - (xs.length : Int)) = room - (xs.length : Int) := by clear q1 q2; rw [IntKind.wrap_i64]; omega
  clear q2
  go_wp2_with (first
    | (at_builtin; refine print_append_str (w0 := w) B rfl _ _ 59 9 5 rfl Try.underlying59 Try.underlying9 info5 _ xs y rfl rfl HOd.out HBd.out (Nat.le_trans hB HBd.out.size) HLN.out ?_; intro v1 w2 hown hbel hgr; have HH2 := Aside0.mk (blk_grown HHd.out hgr (own_ne HOd.out HHd.out (by decide))); have HO2 := Aside0.mk hown; have HB2 := Aside0.mk hbel; clear c0 hbel hgr; obtain ⟨A2, cc2, rfl⟩ := own_slice hown; clear hown; have d0 := (blk_cell HH2.out 0).trans rfl; have f0 := blk_frozen HH2.out 0))
  go_ret
  exact ⟨rfl, ⟨hg, _, by simpa using blk_set HH2.out 0 _, own_setCell HO2.out (own_ne HO2.out HH2.out (by decide)) _⟩, HB2.out.setCell hg _⟩
end Go.Proofs.Ythlllcmffgdcmaa.Stores

namespace Go.Proofs.Ythlllcmffgdcmaa.Book
open Go.RowKit Go.Proofs.YthlllcmffgdcmaaW.PrintWords Go.Proofs.YthlllcmffgdcmaaW.PrintLast Go.Proofs.YthlllcmffgdcmaaW.PrintMore Go.Proofs.Ythlllcmffgdcmaa.Stores
attribute [local go_sem] max2_int min2_int max_two min_two
set_option linter.unusedVariables false
set_option linter.unusedSimpArgs false

/-- Blocks of other types than a store's are as they were. -/
def Tm (w w' : World) : Prop := ∀ (i : Nat) (cs : Array Value) (t : TypeId), w.heap[i]? = some (.cells cs t (0, 0)) → t ≠ 95 → t ≠ 5 → w'.heap[i]? = some (.cells cs t (0, 0))
theorem Tm.refl (w : World) : Tm w w := fun _ _ _ h _ _ => h
theorem Tm.trans {a b c : World} (h : Tm a b) (k : Tm b c) : Tm a c := fun i cs t hi h1 h2 => k i cs t (h i cs t hi h1 h2) h1 h2
theorem Tm.below {a b c : World} (h : Tm a b) (k : Below b.heap.size b c) : Tm a c := fun i cs t hi h1 h2 => blk_below (h i cs t hi h1 h2) k
theorem Tm.of {w w' : World} (k : Below w.heap.size w w') : Tm w w' := (Tm.refl w).below k
theorem Tm.drew {a b : World} (h : Tm a b) : Tm a b.drew := h
theorem Tm.set {a b : World} (h : Tm a b) {g : Nat} {cs : Array Value} (hg : b.heap[g]? = some (.cells cs 95 (0, 0))) (i : Nat) (v : Value) : Tm a (b.setCell ⟨g, i, none⟩ v) := fun k cs' t hk h1 h2 => by
  have hb := h k cs' t hk h1 h2
  refine blk_far hb ?_ v
  rintro rfl
  rw [hg] at hb
  injection hb with hb
  injection hb with _ hb
  exact h1 hb.symm
theorem Tm.grown {a b c : World} (h : Tm a b) {B n : Nat} {v : Value} {xs : List Value} (ho : b.ownsRow B 5 1 v n xs) (hg : b.grownBy c v.ownBlock) : Tm a c := fun k cs' t hk h1 h2 => by
  have hb := h k cs' t hk h1 h2
  refine blk_grown hb hg fun e => ?_
  obtain ⟨cells, hc⟩ := own_typed ho k e.symm
  rw [hc] at hb
  injection hb with hb
  injection hb with _ hb
  exact h2 hb.symm

/-- A store of some room: its bytes, how many of them are safe; no cut is to come. -/
abbrev Sto (rm : Int) (B : Nat) (w : World) (g : Nat) (xs : List Int) (safe : Int) : Prop := IsStore B w g xs safe rm (-1) false
variable {rm : Int}
theorem Sto.below {B : Nat} {w w' : World} {g : Nat} {xs : List Int} {safe : Int} (h : Sto rm B w g xs safe) (hb : Below w.heap.size w w') : Sto rm B w' g xs safe := by
  obtain ⟨h1, v, h2, h3⟩ := h
  exact ⟨h1, v, blk_below h2 hb, pw_own_below h3 hb⟩
theorem Sto.lt {B : Nat} {w : World} {g : Nat} {xs : List Int} {safe : Int} (h : Sto rm B w g xs safe) : g < w.heap.size := by
  obtain ⟨h1, v, h2, h3⟩ := h
  exact blk_lt h2

theorem call_free (B g : Nat) (xs : List Int) (safe : Int) (w : World) (h : Sto rm B w g xs safe) : Calls Try.prog 61 #[.pointer (some ⟨g, 0, none⟩)] w fun e w' => e = .returned (.int .i64 0) ∧ w = w' := by
  obtain ⟨hg, v, hb, ho⟩ := h
  have c3 : w.cell? ⟨g, 3, none⟩ = some (.int .i64 (-1)) := (blk_cell hb 3).trans rfl
  have c4 : w.cell? ⟨g, 4, none⟩ = some (.bool false) := (blk_cell hb 4).trans rfl
  clear hb ho
  go_enter Try.func61, Try.ntmps61
  go_wp2
  go_ret
  exact ⟨rfl, rfl⟩

set_option maxHeartbeats 4000000 in
theorem append_free (B g : Nat) (xs : List Int) (safe : Int) (y : ByteArray) (w : World) (h : Sto rm B w g xs safe) (hr : ((xs.length + y.size : Nat) : Int) ≤ rm) (hrm : rm ≤ 1048576) : Calls Try.prog 45 #[.pointer (some ⟨g, 0, none⟩), .string y] w fun e w' =>
    e = .returned (.int .i64 0) ∧ Sto rm B w' g (xs ++ bytesOf y) safe ∧ Below B w w' ∧ Tm w w' := by
  have HS := Aside0.mk h
  obtain ⟨hg, v, hh, ho⟩ := h
  obtain ⟨A1, cc1, rfl⟩ := own_slice ho
  have c0 : w.cell? ⟨g, 0, none⟩ = some (.slice A1 xs.length cc1) := (blk_cell hh 0).trans rfl
  have c2 : w.cell? ⟨g, 2, none⟩ = some (.int .i64 rm) := (blk_cell hh 2).trans rfl
  have HH := Aside0.mk hh
  have HO := Aside0.mk ho
  have HSZ := Aside0.mk (show B ≤ w.heap.size by have := blk_lt hh; omega)
  clear hh ho
  have q1 : decide (rm - (xs.length : Int) < (y.size : Int)) = false := decide_eq_false (by omega)
  have HLN := Aside0.mk (show xs.length + y.size ≤ 140737488355328 by clear q1; omega)
  have q3 : IntKind.i64.wrap (rm - (xs.length : Int)) = rm - (xs.length : Int) := by clear q1; rw [IntKind.wrap_i64]; omega
  go_enter Try.func45, Try.ntmps45
  go_wp2_with (go_at_call 61; (with_reducible refine (call_free B g xs safe w HS.out).mono ?_); rintro e w1 ⟨rfl, rfl⟩)
  go_region_held3 (fun w' => w'.cell? ⟨g, 0, none⟩ = some (.slice A1 xs.length cc1) ∧ w'.cell? ⟨g, 2, none⟩ = some (.int .i64 rm)) (go_keep) (fail)
  have HOd := Aside0.mk (show w.drew.ownsRow B 5 1 (.slice A1 xs.length cc1) xs.length (nums .u8 xs) from HO.out)
  have HHd := Aside0.mk (blk_drew HH.out)
  have HBd := Aside0.mk ((Below.refl B w).drew)
  have HTd := Aside0.mk ((Tm.refl w).drew)
  have HZd := Aside0.mk (show B ≤ w.drew.heap.size from HSZ.out)
  clear c0 c2
  generalize w.drew = wd at HOd HHd HBd HTd HZd ⊢
  have c0 : wd.cell? ⟨g, 0, none⟩ = some (.slice A1 xs.length cc1) := (blk_cell HHd.out 0).trans rfl
  go_wp2_with (first
    | (at_builtin; refine print_append_str (w0 := w) B rfl _ _ 59 9 5 rfl Try.underlying59 Try.underlying9 info5 _ xs y rfl rfl HOd.out HBd.out HZd.out HLN.out ?_; intro v1 w2 hown hbel hgr; have HH2 := Aside0.mk (blk_grown HHd.out hgr (own_ne HOd.out HHd.out (by decide))); have HO2 := Aside0.mk hown; have HB2 := Aside0.mk hbel; have HT2 := Aside0.mk (HTd.out.grown HOd.out hgr); clear c0 hbel hgr; obtain ⟨A2, cc2, rfl⟩ := own_slice hown; clear hown; have d0 := (blk_cell HH2.out 0).trans rfl; have f0 := blk_frozen HH2.out 0))
  go_ret
  exact ⟨rfl, ⟨hg, _, by simpa using blk_set HH2.out 0 _, own_setCell HO2.out (own_ne HO2.out HH2.out (by decide)) _⟩, HB2.out.setCell hg _, HT2.out.set HH2.out 0 _⟩

set_option maxHeartbeats 4000000 in
theorem sync_free (B g : Nat) (xs : List Int) (safe : Int) (w : World) (h : Sto rm B w g xs safe) : Calls Try.prog 60 #[.pointer (some ⟨g, 0, none⟩)] w fun e w' =>
    e = .returned (.int .i64 0) ∧ Sto rm B w' g xs xs.length ∧ Below B w w' ∧ Tm w w' := by
  have HS := Aside0.mk h
  obtain ⟨hg, v, hh, ho⟩ := h
  obtain ⟨A1, cc1, rfl⟩ := own_slice ho
  have c0 : w.cell? ⟨g, 0, none⟩ = some (.slice A1 xs.length cc1) := (blk_cell hh 0).trans rfl
  have c1 : w.cell? ⟨g, 1, none⟩ = some (.int .i64 safe) := (blk_cell hh 1).trans rfl
  have f1 := blk_frozen hh 1
  have HH := Aside0.mk hh
  have HO := Aside0.mk ho
  clear hh ho
  go_enter Try.func60, Try.ntmps60
  go_wp2_with (go_at_call 61; (with_reducible refine (call_free B g xs safe w HS.out).mono ?_); rintro e w1 ⟨rfl, rfl⟩)
  go_ret
  exact ⟨rfl, ⟨hg, _, by simpa using blk_set HH.out 1 _, own_setCell HO.out (own_ne HO.out HH.out (by decide)) _⟩, (Below.refl B w).setCell hg _, (Tm.refl w).set HH.out 1 _⟩

/-- A row, cut short. -/
theorem row_take {w : World} {B : Nat} {A : Option Addr} {c : Nat} {xs : List Int} (h : w.ownsRow B 5 1 (.slice A xs.length c) xs.length (nums .u8 xs)) (n : Nat) (hn : n ≤ xs.length) : w.ownsRow B 5 1 (.slice A n c) n (nums .u8 (xs.take n)) := by
  obtain ⟨hl, h2⟩ := h
  refine ⟨by simp [nums]; omega, ?_⟩
  rcases h2 with ⟨e, h0⟩ | ⟨g', cap', cur, e, hb, hh, hc, hm, hs, ht⟩
  · injection e with e1 e2 e3
    subst e1
    left
    exact ⟨by rw [show n = 0 by omega, e3], by omega⟩
  · injection e with e e1 e2
    subst e e2
    refine .inr ⟨g', c, cur, rfl, hb, hh, by omega, hm, hs, ?_⟩
    have ht' : (nums .u8 xs).take n = nums .u8 (xs.take n) := by simp [nums]
    rw [← ht', ← ht, List.take_take]
    congr 1
    omega

set_option maxHeartbeats 4000000 in
theorem cut_free (B g : Nat) (xs : List Int) (safe : Int) (n : Nat) (w : World) (h : Sto rm B w g xs safe) (hn : n < xs.length) (hl : xs.length ≤ 1000000) : Calls Try.prog 59 #[.pointer (some ⟨g, 0, none⟩), .int .i64 n] w fun e w' =>
    e = .returned (.int .i64 0) ∧ (∃ safe', Sto rm B w' g (xs.take n) safe') ∧ Below B w w' ∧ Tm w w' := by
  have HS := Aside0.mk h
  obtain ⟨hg, v, hh, ho⟩ := h
  obtain ⟨A1, cc1, rfl⟩ := own_slice ho
  have hcc : xs.length ≤ cc1 := by
    rcases ho.2 with ⟨e, h0⟩ | ⟨g', cap', cur, e, _, _, hc, _⟩
    · omega
    · injection e with e e1 e2; omega
  have c0 : w.cell? ⟨g, 0, none⟩ = some (.slice A1 xs.length cc1) := (blk_cell hh 0).trans rfl
  have f0 := blk_frozen hh 0
  have b0 : (0 : Int) ≤ (n : Int) := by omega
  have b1 : (n : Int) ≤ (cc1 : Int) := by omega
  have b2 : n ≤ cc1 := by omega
  have q1 : decide ((n : Int) < 0) = false := decide_eq_false (by omega)
  have q2 : decide ((xs.length : Int) < (n : Int)) = false := decide_eq_false (by omega)
  have HH := Aside0.mk hh
  have HO := Aside0.mk ho
  have HN := Aside0.mk hn
  clear hh ho
  go_enter Try.func59, Try.ntmps59
  go_upto_region 7 with (go_at_call 61; (with_reducible refine (call_free B g xs safe w HS.out).mono ?_); rintro e w1 ⟨rfl, rfl⟩)
  have HH2 := Aside0.mk (show (w.setCell ⟨g, 0, none⟩ (.slice A1 n cc1)).heap[g]? = some (.cells #[.slice A1 n cc1, .int .i64 safe, .int .i64 rm, .int .i64 (-1), .bool false] 95 (0, 0)) by simpa using blk_set HH.out 0 (.slice A1 n cc1))
  have hrt := row_take HO.out n (Nat.le_of_lt HN.out)
  have HO2 := Aside0.mk (own_setCell hrt (p := ⟨g, 0, none⟩) (own_ne hrt HH.out (by decide)) (.slice A1 n cc1))
  have HB2 := Aside0.mk ((Below.refl B w).setCell (p := ⟨g, 0, none⟩) hg (.slice A1 n cc1))
  have HT2 := Aside0.mk ((Tm.refl w).set HH.out 0 (.slice A1 n cc1))
  clear hrt c0 f0
  change Code.wp _ _ _ _ (w.setCell ⟨g, 0, none⟩ (.slice A1 n cc1))
  generalize w.setCell ⟨g, 0, none⟩ (.slice A1 n cc1) = w2 at HH2 HO2 HB2 HT2 ⊢
  have c1 : w2.cell? ⟨g, 1, none⟩ = some (.int .i64 safe) := (blk_cell HH2.out 1).trans rfl
  have f1 := blk_frozen HH2.out 1
  obtain ⟨m, hm⟩ : ∃ m, (if (n : Int) < safe then (n : Int) else safe) = m := ⟨_, rfl⟩
  go_wp2
  go_ret
  have hlen : (xs.take n).length = n := by rw [List.length_take]; omega
  exact ⟨rfl, ⟨m, hg, .slice A1 n cc1, by simpa using blk_set HH2.out 1 (.int .i64 m), by rw [hlen]; exact own_setCell HO2.out (p := ⟨g, 1, none⟩) (own_ne HO2.out HH2.out (by decide)) _⟩, HB2.out.setCell hg _, HT2.out.set HH2.out 1 _⟩
end Go.Proofs.Ythlllcmffgdcmaa.Book

namespace Go.Proofs.Ythlllcmffgdcmaa.Book
open Go.RowKit Go.Proofs.YthlllcmffgdcmaaW.PrintWords Go.Proofs.YthlllcmffgdcmaaW.PrintLast Go.Proofs.YthlllcmffgdcmaaW.PrintMore Go.Proofs.Ythlllcmffgdcmaa.Stores Go.Proofs.Ythlllcmffgdcmaa.LebPlain Go.Proofs.Ythlllcmffgdcmaa.LebWords Go.Proofs.Ythlllcmffgdcmaa.RecPlain Go.Proofs.Ythlllcmffgdcmaa.SegPlain Go.Proofs.Ythlllcmffgdcmaa.SegLinkQSegmentOpens
open Go.Proofs.Ythlllcmffgdcmaa.PRecordReads (S31 k31 k31_mk k31_openM)
open Go.Proofs.Ythlllcmffgdcmaa.RecRecordReads (recP)
attribute [local go_sem] max2_int min2_int max_two min_two
set_option linter.unusedVariables false
set_option linter.unusedSimpArgs false

/-- A decision's cells, of its number. -/
def rc (n : Nat) : List Value := [.int .i64 ((n % 4 + 1 : Nat) : Int), .int .u64 ((n / 4 : Nat) : Int)]
def rcs (ns : List Nat) : List Value := ns.flatMap rc
theorem rcs_cons (n : Nat) (ns : List Nat) : rcs (n :: ns) = .int .i64 ((n % 4 + 1 : Nat) : Int) :: .int .u64 ((n / 4 : Nat) : Int) :: rcs ns := rfl
theorem rcs_append (a b : List Nat) : rcs (a ++ b) = rcs a ++ rcs b := by simp [rcs]
theorem rcs_len (ns : List Nat) : (rcs ns).length = ns.length * 2 := by
  induction ns with
  | nil => rfl
  | cons n ns ih => rw [rcs_cons]; simp only [List.length_cons, ih]; omega
theorem rcs_one (ns : List Nat) : ∀ u ∈ rcs ns, u.oneCell' = true := by
  intro u hu
  simp only [rcs, List.mem_flatMap] at hu
  obtain ⟨p, _, hu⟩ := hu
  simp only [rc, List.mem_cons, List.not_mem_nil, or_false] at hu
  rcases hu with rfl | rfl <;> rfl
theorem rcs_get : ∀ (ns : List Nat) (i : Nat) (h : i < ns.length), (rcs ns)[i * 2]? = some (.int .i64 ((ns[i] % 4 + 1 : Nat) : Int)) ∧ (rcs ns)[i * 2 + 1]? = some (.int .u64 ((ns[i] / 4 : Nat) : Int)) := by
  intro ns
  induction ns with
  | nil => intro i h; simp at h
  | cons n ns ih =>
    intro i h
    cases i with
    | zero => exact ⟨rfl, rfl⟩
    | succ i =>
      have := ih i (by simpa using h)
      rw [rcs_cons, show (i + 1) * 2 = i * 2 + 1 + 1 by omega]
      simpa using this
/-- A row of decisions of one's own. -/
def Own (w : World) (B : Nat) (v : Value) (ns : List Nat) : Prop := w.ownsRow B 31 2 v ns.length (rcs ns)
theorem Own.nil (w : World) (B : Nat) : Own w B (.slice none 0 0) [] := own_nil _ _ _ _
theorem Own.slice {w : World} {B : Nat} {v : Value} {ns : List Nat} (h : Own w B v ns) : ∃ A c, v = .slice A ns.length c := own_slice h
theorem Own.below {w w' : World} {B : Nat} {v : Value} {ns : List Nat} (h : Own w B v ns) (hb : Below w.heap.size w w') : Own w' B v ns := pw_own_below h hb
theorem reps_rcs : ∀ (ns : List Nat) (cs : List Value) {w : World} {B : Nat} {ok : Nat → Prop}, Reps (k31.M w B ok) 2 (ns.map recP) cs → cs = rcs ns := by
  intro ns
  induction ns with
  | nil => intro cs w B ok h; exact List.eq_nil_of_length_eq_zero (by simpa using h.1)
  | cons n ns ih =>
    intro cs w B ok h
    have h0 := k31_openM (h.2 0 (recP n) rfl)
    rw [Nat.zero_mul, List.drop_zero] at h0
    have ht := ih (cs.drop 2) (w := w) (B := B) (ok := ok) ⟨by have := h.1; simp at this; rw [List.length_drop, this, List.length_map]; omega, fun j p hj => by
      have := h.2 (j + 1) p hj
      rw [List.drop_drop, show 2 + j * 2 = (j + 1) * 2 by omega]
      exact this⟩
    rw [rcs_cons, ← ht, ← List.take_append_drop 2 cs, h0]
    rfl
theorem own_of_kd {w : World} {B : Nat} {ok : Nat → Prop} {v : Value} {ns : List Nat} (h : Kd.R k31 31 w B ok v (ns.map recP)) : Own w B v ns := by
  obtain ⟨_, inner, ho, hr⟩ := h
  have e := reps_rcs ns inner hr
  subst e
  rw [List.length_map] at ho
  exact ho
/-- What a row of one's own reads. -/
theorem Own.reads {w : World} {B : Nat} {v : Value} {ns : List Nat} (h : Own w B v ns) : ∃ A c, v = .slice A ns.length c ∧ ns.length ≤ c ∧ Kd.C k31 w A (ns.map recP).length (ns.map recP) := by
  obtain ⟨hl, h2⟩ := h
  rcases h2 with ⟨rfl, h0⟩ | ⟨gr, cap, cur, rfl, hb, hh, hc, hm, hs, ht⟩
  · have e : ns = [] := List.eq_nil_of_length_eq_zero h0
    subst e
    exact ⟨none, 0, rfl, Nat.le_refl _, rfl, by simp, fun h => by simp at h⟩
  · refine ⟨some ⟨gr, 0, none⟩, cap, rfl, hc, rfl, by rw [List.length_map]; unfold maxLen at hm; omega, fun _ => ⟨⟨gr, 0, none⟩, rfl, fun j p hj => ?_⟩⟩
    have hj' : j < ns.length := by
      rcases Nat.lt_or_ge j ns.length with h | h
      · exact h
      · rw [List.getElem?_eq_none (by rw [List.length_map]; exact h)] at hj; cases hj
    have ep : p = recP ns[j] := by
      rw [List.getElem?_map, List.getElem?_eq_getElem hj'] at hj
      injection hj with hj
      exact hj.symm
    subst ep
    have key : ∀ i u, i < ns.length * 2 → (rcs ns)[i]? = some u → w.cell? ⟨gr, i, none⟩ = some u := fun i u hi hu => by
      rw [blk_cell hh i]
      rw [← ht, List.getElem?_take_of_lt hi, Array.getElem?_toList] at hu
      exact hu
    have hg := rcs_get ns j hj'
    refine ⟨_, rfl, k31_mk w _, fun i u hu => ?_⟩
    rw [add_plain]
    have hsz : k31.sz = 2 := rfl
    rw [hsz]
    match i, hu with
    | 0, hu => injection hu with hu; subst hu; exact key _ _ (by omega) hg.1
    | 1, hu => injection hu with hu; subst hu; exact key _ _ (by omega) hg.2
theorem Own.kd {w : World} {B : Nat} {v : Value} {ns : List Nat} (h : Own w B v ns) : Kd.R k31 31 w B (fun _ => True) v (ns.map recP) := by
  refine ⟨fun _ _ => trivial, rcs ns, ?_, by rw [rcs_len, List.length_map]; rfl, fun j p hj => ?_⟩
  · rw [List.length_map]; exact h
  · have hj' : j < ns.length := by
      rcases Nat.lt_or_ge j ns.length with h | h
      · exact h
      · rw [List.getElem?_eq_none (by rw [List.length_map]; exact h)] at hj; cases hj
    have ep : p = recP ns[j] := by
      rw [List.getElem?_map, List.getElem?_eq_getElem hj'] at hj
      injection hj with hj
      exact hj.symm
    subst ep
    have hg := rcs_get ns j hj'
    have e : ((rcs ns).drop (j * k31.sz)).take k31.sz = [.int .i64 ((ns[j] % 4 + 1 : Nat) : Int), .int .u64 ((ns[j] / 4 : Nat) : Int)] := by
      have hsz : k31.sz = 2 := rfl
      rw [hsz]
      apply List.ext_getElem?
      intro i
      rw [List.getElem?_take]
      rcases i with _ | _ | i
      · rw [if_pos (by omega), List.getElem?_drop, Nat.add_zero]; exact hg.1
      · rw [if_pos (by omega), List.getElem?_drop]; exact hg.2
      · rw [if_neg (by omega)]; rfl
    rw [e]
    exact Go.Proofs.Ythlllcmffgdcmaa.PRecordReads.k31_mkM w B _ (recP ns[j])

/-- The bytes of decisions. -/
def bodyS (ns : List Nat) : ByteArray := strB (rowB ns)
theorem bl_bodyS (ns : List Nat) : bl (bodyS ns) = rowB ns := bl_strB _ (rowB_lt ns)
theorem bodyS_size (ns : List Nat) : (bodyS ns).size = (rowB ns).length := by rw [← bl_length, bl_bodyS]

theorem all_calls (ns : List Nat) (hn : ∀ n ∈ ns, n < 18446744073709551616) (hl : ns.length ≤ 1000) (w : World) : Calls Try.prog 18 #[.string (bodyS ns)] w fun e w' =>
    ∃ v, e = .returned (.tuple #[v, .int .i64 ((rowB ns).length : Int)]) ∧ Own w' w.heap.size v ns ∧ Below w.heap.size w w' := by
  have hs := rowB_len ns hn
  have hln := len_rowB ns
  have hz := bodyS_size ns
  have h1 := Go.Proofs.Ythlllcmffgdcmaa.RecRecordReads.all_f (bodyS ns) (by omega) ((bodyS ns).size + 21) (Nat.le_refl _)
  have h2 := allN_bytes ns ((bodyS ns).size + 1) [] hn (by omega) (.inl rfl)
  rw [List.append_nil] at h2
  rw [bl_bodyS, h2] at h1
  exact (Go.Proofs.Ythlllcmffgdcmaa.PRecordReads.record_All.calls _ _ _ _ w h1).mono fun e w' ⟨v, e1, e2, e3⟩ => ⟨v, e1, own_of_kd e2, e3⟩
theorem bytes_calls' (ns : List Nat) (hn : ∀ n ∈ ns, n < 18446744073709551616) (hl : ns.length ≤ 1000) (B : Nat) (v : Value) (w : World) (h : Own w B v ns) : Calls Try.prog 17 #[v] w fun e w' =>
    e = .returned (.string (bodyS ns)) ∧ Below w.heap.size w w' := by
  obtain ⟨A, c, rfl, hc, hk⟩ := h.reads
  obtain ⟨r, hr, hb⟩ := Go.Proofs.Ythlllcmffgdcmaa.RecRecordReads.bytes_f ns hn (by omega) (ns.length + 20) (Nat.le_refl _)
  have e : r = bodyS ns := bl_inj (by rw [hb, bl_bodyS])
  subst e
  have := Go.Proofs.Ythlllcmffgdcmaa.PRecordReads.record_Bytes.calls (ns.length + 20) A c (ns.map recP) _ w hk (by rw [List.length_map]; exact hc) hr
  rw [List.length_map] at this
  exact this

set_option maxHeartbeats 1000000 in
theorem read1_calls (ns : List Nat) (hn : ∀ n ∈ ns, n < 18446744073709551616) (hl : ns.length ≤ 1000) (w : World) : Calls Try.prog 63 #[.string (bodyS ns)] w fun e w' =>
    ∃ v, e = .returned (.tuple #[v, .bool true]) ∧ Own w' w.heap.size v ns ∧ Below w.heap.size w w' := by
  have HN := Aside0.mk hn
  have HZ := Aside0.mk (bodyS_size ns)
  have hz : ((rowB ns).length : Int) = ((bodyS ns).size : Int) := by rw [HZ.out]
  have q1 : (((bodyS ns).size : Int) == ((bodyS ns).size : Int)) = true := beq_self_eq_true _
  have HA := Aside0.mk (hz ▸ all_calls ns HN.out hl w)
  clear hn hz
  go_enter Try.func63, Try.ntmps63
  go_wp2_with (go_at_call 18; (with_reducible refine HA.out.mono ?_); rintro e w1 ⟨v, rfl, ho, hb⟩; have HO := Aside0.mk ho; have HB := Aside0.mk hb; (obtain ⟨A, c, rfl⟩ := ho.slice); clear ho hb)
  go_ret2
  exact ⟨_, rfl, HO.out, HB.out⟩
end Go.Proofs.Ythlllcmffgdcmaa.Book

namespace Go.Proofs.Ythlllcmffgdcmaa.Book
open Go.RowKit Go.Proofs.YthlllcmffgdcmaaW.PrintWords Go.Proofs.YthlllcmffgdcmaaW.PrintLast Go.Proofs.YthlllcmffgdcmaaW.PrintMore Go.Proofs.Ythlllcmffgdcmaa.Stores Go.Proofs.Ythlllcmffgdcmaa.LebPlain Go.Proofs.Ythlllcmffgdcmaa.LebWords Go.Proofs.Ythlllcmffgdcmaa.RecPlain Go.Proofs.Ythlllcmffgdcmaa.SegPlain Go.Proofs.Ythlllcmffgdcmaa.SegLinkQSegmentOpens
attribute [local go_sem] max2_int min2_int max_two min_two
set_option linter.unusedVariables false
set_option linter.unusedSimpArgs false

theorem info31 : (Try.prog.info? 31).map (fun i => (i.zero, i.size, i.bytes)) = some (some (.agg #[.int .i64 0, .int .u64 0]), 2, 16) := by kernel_rfl
theorem Own.news {w : World} {B : Nat} {v : Value} {ns : List Nat} (h : Own w B v ns) (h0 : 0 < ns.length) : ∃ gr c, v = .slice (some ⟨gr, 0, none⟩) ns.length c ∧ ∀ j u, (rcs ns)[j]? = some u → w.cell? ((⟨gr, 0, none⟩ : Addr).add j) = some u := by
  obtain ⟨hl, h2⟩ := h
  rcases h2 with ⟨_, h0'⟩ | ⟨gr, cap, cur, rfl, hb, hh, hc, hm, hs, ht⟩
  · omega
  · refine ⟨gr, cap, rfl, fun j u hu => ?_⟩
    rw [add_plain, blk_cell hh j]
    have hj : j < ns.length * 2 := by
      rcases Nat.lt_or_ge j (ns.length * 2) with h | h
      · exact h
      · rw [List.getElem?_eq_none (by rw [rcs_len]; exact h)] at hu; cases hu
    rw [← ht, List.getElem?_take_of_lt hj, Array.getElem?_toList] at hu
    exact hu

set_option maxHeartbeats 4000000 in
set_option maxRecDepth 100000 in
theorem see62 (B g5 g6 : Nat) (ns g : List Nat) (v : Value) (en : Int) (k : Nat) (W : World) (h5 : W.heap[g5]? = some (.cells #[v] 24 (0, 0))) (h6 : W.heap[g6]? = some (.cells #[.int .i64 (k : Int)] 3 (0, 0))) (ho : Own W B v ns)
    (hB5 : B ≤ g5) (hB6 : B ≤ g6) (hg : ∀ n ∈ g, n < 18446744073709551616) (hg0 : 0 < g.length) (hl : ns.length + g.length ≤ 1000) (hk : k ≤ 1000) :
    Calls Try.prog 62 #[.string (bodyS g), .int .i64 en, .pointer (some ⟨g5, 0, none⟩), .pointer (some ⟨g6, 0, none⟩)] W fun e W' => e = .returned (.bool true) ∧ ∃ v', W'.heap[g5]? = some (.cells #[v'] 24 (0, 0)) ∧ W'.heap[g6]? = some (.cells #[.int .i64 ((k + 1 : Nat) : Int)] 3 (0, 0)) ∧ Own W' B v' (ns ++ g) ∧ Below B W W' := by
  have HG := Aside0.mk (And.intro hg hg0)
  have H5 := Aside0.mk h5
  have H6 := Aside0.mk h6
  have HO := Aside0.mk ho
  have HL := Aside0.mk hl
  have HSZ := Aside0.mk (show B ≤ W.heap.size by have := blk_lt h5; omega)
  obtain ⟨A, c, rfl⟩ := ho.slice
  obtain ⟨j0, hj0, hz0, hz1, hz2⟩ := info_parts info31
  have HJ := Aside0.mk (And.intro hj0 (And.intro hz0 (And.intro hz1 hz2)))
  clear hj0 hz0 hz1 hz2 h5 h6 ho hg hg0 hl
  go_enter Try.func62, Try.ntmps62
  go_wp2_with (first
    | (go_at_call 63; (with_reducible refine (read1_calls g HG.out.1 (by have := HL.out; omega) W).mono ?_); rintro e w1 ⟨v1, rfl, ho1, hb1⟩; obtain ⟨gr, cg, rfl, hnews⟩ := ho1.news HG.out.2; have HN := Aside0.mk hnews; have HB1 := Aside0.mk hb1; have H51 := Aside0.mk (blk_below H5.out hb1); have H61 := Aside0.mk (blk_below H6.out hb1); have HO1 := Aside0.mk (HO.out.below hb1); have c5 : w1.cell? ⟨g5, 0, none⟩ = some (.slice A ns.length c) := (blk_cell H51.out 0).trans rfl; clear ho1 hnews hb1)
    | (at_builtin; refine wpList_append_lies _ (by rfl) _ _ 24 (by rfl) B 31 j0 _ 2 16 Try.underlying24 HJ.out.1 HJ.out.2.1 HJ.out.2.2.1 HJ.out.2.2.2 rfl (by omega) (.slice A ns.length c) ns.length (rcs ns) (by rfl) HO1.out ⟨gr, 0, none⟩ g.length cg (rcs g) (by rfl) (rcs_len g) HN.out (rcs_one g) HG.out.2 (by have := HL.out; unfold maxLen; omega) (by have := HL.out; omega) (Nat.le_trans HSZ.out HB1.out.size) w1.heap.size rfl ?_; intro gg cap w2 hown hgrow hat hlt; have HO2 := Aside0.mk (show Own w2 B (.slice (some ⟨gg, 0, none⟩) (ns.length + g.length) cap) (ns ++ g) from by unfold Own; rw [List.length_append, rcs_append]; exact hown); have H52 := Aside0.mk (blk_grown H51.out hgrow (own_ne HO1.out H51.out (by decide))); have H62 := Aside0.mk (blk_grown H61.out hgrow (own_ne HO1.out H61.out (by decide))); have HB2 := Aside0.mk ((HB1.out.mono HSZ.out).grown hgrow (Nat.le_trans HSZ.out HB1.out.size) (own_base HO1.out)); have d5 := (blk_cell H52.out 0).trans rfl; have f5 := blk_frozen H52.out 0; have H56 := Aside0.mk (show g6 ≠ g5 from blk_ne H62.out H52.out (by decide)); have d6 : (w2.setCell ⟨g5, 0, none⟩ (.slice (some ⟨gg, 0, none⟩) (ns.length + g.length) cap)).cell? ⟨g6, 0, none⟩ = some (.int .i64 (k : Int)) := (blk_cell (blk_far H62.out (p := ⟨g5, 0, none⟩) H56.out _) 0).trans rfl; have f6 := blk_frozen (blk_far H62.out (p := ⟨g5, 0, none⟩) H56.out (.slice (some ⟨gg, 0, none⟩) (ns.length + g.length) cap)) 0; clear hown hgrow hat hlt c5))
  go_ret
  have h7 := blk_set H52.out 0 (.slice (some ⟨gg, 0, none⟩) (ns.length + g.length) cap)
  have h8 := blk_far h7 (p := ⟨g6, 0, none⟩) (Ne.symm H56.out) (.int .i64 ((k : Int) + 1))
  have h9 := blk_far H62.out (p := ⟨g5, 0, none⟩) H56.out (.slice (some ⟨gg, 0, none⟩) (ns.length + g.length) cap)
  have h10 := blk_set h9 0 (.int .i64 ((k : Int) + 1))
  refine ⟨rfl, _, by simpa using h8, by simpa using h10, ?_, (HB2.out.setCell hB5 _).setCell hB6 _⟩
  exact own_setCell (own_setCell HO2.out (p := ⟨g5, 0, none⟩) (own_ne HO2.out H52.out (by decide)) _) (p := ⟨g6, 0, none⟩) (own_ne HO2.out H62.out (by decide)) _

/-- A text that has these groups of decisions, each a segment, and then none. -/
structure Whole (s : ByteArray) (gs : List (List Nat)) (E : Nat → Nat) : Prop where
  size : s.size ≤ 1000000
  e0 : E 0 = 0
  seg : ∀ i, i < gs.length → openR s (E i : Int) = ((((0 + i) % 18446744073709551616 : Nat) : Int), bodyS (gs.getD i []), (E (i + 1) : Int), 0)
  up : ∀ i, i < gs.length → E i < E (i + 1) ∧ E (i + 1) ≤ s.size
  stop : (openR s (E gs.length : Int)).2.2.2 ≠ 0
  codes : ∀ g ∈ gs, 0 < g.length ∧ ∀ n ∈ g, n < 18446744073709551616
  many : gs.flatten.length ≤ 1000
theorem take_flat (gs : List (List Nat)) (i : Nat) (h : i < gs.length) : (gs.take (i + 1)).flatten = (gs.take i).flatten ++ gs.getD i [] := by
  rw [List.take_succ_eq_append_getElem h, List.flatten_append, List.getD_eq_getElem?_getD, List.getElem?_eq_getElem h]
  simp
theorem flat_le (gs : List (List Nat)) (i : Nat) : (gs.take i).flatten.length ≤ gs.flatten.length := by
  have := congrArg List.length (congrArg List.flatten (List.take_append_drop i gs))
  rw [List.flatten_append, List.length_append] at this
  omega
theorem many_le : ∀ (gs : List (List Nat)), (∀ g ∈ gs, 0 < g.length) → gs.length ≤ gs.flatten.length := by
  intro gs
  induction gs with
  | nil => intro _; simp
  | cons g gs ih =>
    intro h
    have h1 := h g (List.mem_cons_self ..)
    have h2 := ih fun x hx => h x (List.mem_cons_of_mem _ hx)
    rw [List.flatten_cons, List.length_append, List.length_cons]
    omega

set_option maxHeartbeats 4000000 in
set_option maxRecDepth 100000 in
theorem read_calls (s : ByteArray) (gs : List (List Nat)) (E : Nat → Nat) (h : Whole s gs E) (w : World) : Calls Try.prog 46 #[.string s] w fun e w' =>
    ∃ v, e = .returned (.tuple #[v, .int .i64 (E gs.length : Int), .int .i64 (gs.length : Int)]) ∧ Own w' w.heap.size v gs.flatten ∧ Below w.heap.size w w' := by
  have H := Aside0.mk h
  have hw0 := below_alloc (below_alloc (Below.refl w.heap.size w) (.cells #[.slice none 0 0] 24)) (.cells #[.int .i64 0] 3)
  have h50 := blk_alloc (blk_new w (.cells #[.slice none 0 0] 24)) (.cells #[.int .i64 0] 3)
  have h60 : ((w.alloc (.cells #[.slice none 0 0] 24)).alloc (.cells #[.int .i64 0] 3)).heap[w.heap.size + 1]? = some (.cells #[.int .i64 0] 3 (0, 0)) := by simpa using blk_new (w.alloc (.cells #[.slice none 0 0] 24)) (.cells #[.int .i64 0] 3)
  have hlen := many_le gs fun g hg => (h.codes g hg).1
  have hsc := Scan.scan_calls s h.size 0 gs.length (by omega) E (fun i => bodyS (gs.getD i [])) h.e0 h.seg h.up 62 #[.pointer (some ⟨w.heap.size, 0, none⟩), .pointer (some ⟨w.heap.size + 1, 0, none⟩)] (fun _ _ => by kernel_rfl)
    (fun i W => ∃ v, W.heap[w.heap.size]? = some (.cells #[v] 24 (0, 0)) ∧ W.heap[w.heap.size + 1]? = some (.cells #[.int .i64 (i : Int)] 3 (0, 0)) ∧ Own W w.heap.size v (gs.take i).flatten ∧ Below w.heap.size w W)
    (fun W => ∃ v, W.heap[w.heap.size]? = some (.cells #[v] 24 (0, 0)) ∧ W.heap[w.heap.size + 1]? = some (.cells #[.int .i64 (gs.length : Int)] 3 (0, 0)) ∧ Own W w.heap.size v gs.flatten ∧ Below w.heap.size w W)
    (fun i W W' ⟨v, h1, h2, h3, h4⟩ hb => ⟨v, blk_below h1 hb, blk_below h2 hb, h3.below hb, below_then h4 h4.size hb⟩)
    (fun i hi W ⟨v, h1, h2, h3, h4⟩ => by
      have hgm : gs.getD i [] ∈ gs := by rw [List.getD_eq_getElem?_getD, List.getElem?_eq_getElem hi]; exact List.getElem_mem hi
      have hc := h.codes _ hgm
      have hf := flat_le gs (i + 1)
      rw [take_flat gs i hi, List.length_append] at hf
      have hmm := h.many
      exact (see62 w.heap.size w.heap.size (w.heap.size + 1) (gs.take i).flatten (gs.getD i []) v _ i W h1 h2 h3 (Nat.le_refl _) (by omega) hc.2 hc.1 (by omega) (by omega)).mono fun e W' ⟨e1, v', e2, e3, e4, e5⟩ => ⟨e1, v', e2, e3, by rw [take_flat gs i hi]; exact e4, h4.trans e5⟩)
    (Or.inl ⟨Or.inl h.stop, fun W ⟨v, h1, h2, h3, h4⟩ => ⟨v, h1, h2, by rw [List.take_length] at h3; exact h3, h4⟩⟩)
    ((w.alloc (.cells #[.slice none 0 0] 24)).alloc (.cells #[.int .i64 0] 3)) ⟨_, h50, h60, Own.nil _ _, hw0⟩
  generalize gs.flatten = fl at hsc ⊢
  have HS := Aside0.mk hsc
  have h1 : ∀ (fn : Fn) (first cap : Array Value) (w : World), (Instr.makeFunc fn first cap).run Try.prog w = .ok (.func fn first cap) w := fun _ _ _ _ => rfl
  clear h hw0 h50 h60 hsc hlen
  go_enter Try.func46, Try.ntmps46
  go_wp2_with (go_at_call 35; refine HS.out.mono ?_; rintro e w1 ⟨rfl, v, h5, h6, ho, hb⟩; have HO := Aside0.mk ho; have HB := Aside0.mk hb; obtain ⟨A, c, rfl⟩ := ho.slice; have c5 := (blk_cell h5 0).trans rfl; have c6 := (blk_cell h6 0).trans rfl; clear h5 h6 ho hb)
  go_quiet (fail)
  go_wp2
  exact bodyPost_ret (v := .tuple #[.slice A fl.length c, .int .i64 (E gs.length : Int), .int .i64 (gs.length : Int)]) (by simp [results, Try.results46, go_sem]) rfl ⟨_, rfl, HO.out, pw_below_drewN HB.out _⟩
end Go.Proofs.Ythlllcmffgdcmaa.Book

namespace Go.Proofs.Ythlllcmffgdcmaa.Book
open Go.RowKit Go.Proofs.YthlllcmffgdcmaaW.PrintWords Go.Proofs.YthlllcmffgdcmaaW.PrintLast Go.Proofs.YthlllcmffgdcmaaW.PrintMore Go.Proofs.Ythlllcmffgdcmaa.Stores Go.Proofs.Ythlllcmffgdcmaa.LebPlain Go.Proofs.Ythlllcmffgdcmaa.LebWords Go.Proofs.Ythlllcmffgdcmaa.RecPlain Go.Proofs.Ythlllcmffgdcmaa.SegPlain Go.Proofs.Ythlllcmffgdcmaa.SegLinkQSegmentOpens
attribute [local go_sem] max2_int min2_int max_two min_two
set_option linter.unusedVariables false
set_option linter.unusedSimpArgs false
variable {rm : Int}

/-- A book in memory: its store, how many a segment has, the next number, what waits, how many are sure. -/
structure Bk (B : Nat) (w : World) (gb g : Nat) (m q : Int) (vw : Value) (ws : List Nat) (sure : Int) : Prop where
  ge : B ≤ gb
  blk : w.heap[gb]? = some (.cells #[.pointer (some ⟨g, 0, none⟩), .int .i64 m, .int .u64 q, vw, .int .i64 sure] 98 (0, 0))
  row : Own w B vw ws
theorem Bk.below {B : Nat} {w w' : World} {gb g : Nat} {m q : Int} {vw : Value} {ws : List Nat} {sure : Int} (h : Bk B w gb g m q vw ws sure) (hb : Below w.heap.size w w') : Bk B w' gb g m q vw ws sure := ⟨h.ge, blk_below h.blk hb, h.row.below hb⟩
theorem own_tm {w w' : World} {B : Nat} {v : Value} {ns : List Nat} (h : Own w B v ns) (ht : Tm w w') : Own w' B v ns := by
  obtain ⟨h1, h2⟩ := h
  refine ⟨h1, ?_⟩
  rcases h2 with h2 | ⟨g, cap, cur, rfl, hb, hh, r⟩
  · exact .inl h2
  · exact .inr ⟨g, cap, cur, rfl, hb, ht g _ _ hh (by decide) (by decide), r⟩
theorem Bk.tm {B : Nat} {w w' : World} {gb g : Nat} {m q : Int} {vw : Value} {ws : List Nat} {sure : Int} (h : Bk B w gb g m q vw ws sure) (ht : Tm w w') : Bk B w' gb g m q vw ws sure := ⟨h.ge, ht _ _ _ h.blk (by decide) (by decide), own_tm h.row ht⟩

theorem sure_calls (B gb g : Nat) (m q : Int) (vw : Value) (ws : List Nat) (sure : Int) (w : World) (h : Bk B w gb g m q vw ws sure) : Calls Try.prog 41 #[.pointer (some ⟨gb, 0, none⟩)] w fun e w' => e = .returned (.int .i64 sure) ∧ w = w' := by
  have c4 : w.cell? ⟨gb, 4, none⟩ = some (.int .i64 sure) := (blk_cell h.blk 4).trans rfl
  clear h
  go_enter Try.func41, Try.ntmps41
  go_wp2
  go_ret
  exact ⟨rfl, rfl⟩
theorem waiting_calls (B gb g : Nat) (m q : Int) (vw : Value) (ws : List Nat) (sure : Int) (w : World) (h : Bk B w gb g m q vw ws sure) : Calls Try.prog 42 #[.pointer (some ⟨gb, 0, none⟩)] w fun e w' => e = .returned (.int .i64 (ws.length : Int)) ∧ w = w' := by
  obtain ⟨A, c, rfl⟩ := h.row.slice
  have c3 : w.cell? ⟨gb, 3, none⟩ = some (.slice A ws.length c) := (blk_cell h.blk 3).trans rfl
  clear h
  go_enter Try.func42, Try.ntmps42
  go_wp2
  go_ret
  exact ⟨rfl, rfl⟩

theorem bytes_c (B g : Nat) (xs : List Int) (safe : Int) (w : World) (h : Sto rm B w g xs safe) : Calls Try.prog 47 #[.pointer (some ⟨g, 0, none⟩)] w fun e w' => e = .returned (.string (strOfNums xs)) ∧ w = w' :=
  (bytes_calls B g xs safe rm (-1) false w h).mono fun e w' ⟨h1, h2⟩ => ⟨h1, h2.symm⟩
theorem len_c (B g : Nat) (xs : List Int) (safe : Int) (w : World) (h : Sto rm B w g xs safe) : Calls Try.prog 48 #[.pointer (some ⟨g, 0, none⟩)] w fun e w' => e = .returned (.int .i64 (xs.length : Int)) ∧ w = w' :=
  (len_calls B g xs safe rm (-1) false w h).mono fun e w' ⟨h1, h2⟩ => ⟨h1, h2.symm⟩
/-- How many a segment has at most. -/
def most (size : Int) : Int := if (if size < 1 then 1 else size) < 400 then (if size < 1 then 1 else size) else 400

set_option maxHeartbeats 4000000 in
set_option maxRecDepth 100000 in
theorem open_calls (B g : Nat) (xs : List Int) (safe size : Int) (gs : List (List Nat)) (E : Nat → Nat) (w : World) (h : Sto rm B w g xs safe) (hW : Whole (strOfNums xs) gs E) (hE : E gs.length ≤ xs.length) (hx : xs.length ≤ 1000000) : Calls Try.prog 40 #[.pointer (some ⟨g, 0, none⟩), .int .i64 size] w fun e w' =>
    ∃ gb v safe', e = .returned (.tuple #[.pointer (some ⟨gb, 0, none⟩), v, .int .i64 0]) ∧ Bk w.heap.size w' gb g (most size) (gs.length : Int) (.slice none 0 0) [] (gs.flatten.length : Int) ∧ Own w' w.heap.size v gs.flatten ∧ Sto rm B w' g (xs.take (E gs.length)) safe' ∧ Below B w w' ∧ Tm w w' ∧ (E gs.length = xs.length → safe' = safe) := by
  have H := Aside0.mk h
  have HR := Aside0.mk (read_calls (strOfNums xs) gs E hW w)
  have HX := Aside0.mk (And.intro hE hx)
  have HLT := Aside0.mk (show g < w.heap.size ∧ B ≤ w.heap.size by have := h.lt; have := h.1; omega)
  have hgl : gs.length ≤ 1000 := by
    have := many_le gs fun g hg => (hW.codes g hg).1
    have := hW.many
    omega
  have hfl := hW.many
  generalize gs.flatten = fl at HR hfl ⊢
  generalize gs.length = n at HR HX hgl ⊢
  generalize E n = en at HR HX ⊢
  have e1 : IntKind.u64.wrap (n : Int) = (n : Int) := by rw [IntKind.wrap_u64]; omega
  obtain ⟨m1, hm1⟩ : ∃ m, (if size < 1 then (1 : Int) else size) = m := ⟨_, rfl⟩
  have hmm : (if m1 < 400 then m1 else 400) = most size := by rw [← hm1]; rfl
  have hmm' : (if (400 : Int) < m1 then (400 : Int) else m1) = most size := by rw [← hmm]; split <;> split <;> omega
  obtain ⟨mm, hms⟩ : ∃ mm, most size = mm := ⟨_, rfl⟩
  rw [hms] at hmm hmm' ⊢
  clear h hW hE hx hms
  by_cases hlt : en < xs.length
  · have q1 : decide ((en : Int) < (xs.length : Int)) = true := decide_eq_true (by omega)
    go_enter Try.func40, Try.ntmps40
    go_wp2_with (first
      | (go_at_call 47; (with_reducible refine (bytes_c B g xs safe w H.out).mono ?_); rintro e w' ⟨rfl, rfl⟩)
      | (go_at_call 46; (with_reducible refine HR.out.mono ?_); rintro e w1 ⟨v, rfl, ho, hb⟩; have HO := Aside0.mk ho; have HB := Aside0.mk hb; have HS1 := Aside0.mk (H.out.below hb); (obtain ⟨A, c, rfl⟩ := ho.slice); clear ho hb)
      | (go_at_call 48; (with_reducible refine (len_c B g xs safe w1 HS1.out).mono ?_); rintro e w' ⟨rfl, rfl⟩)
      | (go_at_call 59; (with_reducible refine (cut_free B g xs safe en _ HS1.out hlt HX.out.2).mono ?_); rintro e w2 ⟨rfl, ⟨safe2, hs2⟩, hb2, ht2⟩; have HS2 := Aside0.mk hs2; have HB2 := Aside0.mk hb2; have HT2 := Aside0.mk ht2; clear hs2 hb2 ht2))
    have hbk := blk_new w2 (.cells #[.pointer (some ⟨g, 0, none⟩), .int .i64 mm, .int .u64 (n : Int), .slice none 0 0, .int .i64 (fl.length : Int)] 98)
    have hs12 : w.heap.size ≤ w2.heap.size := Nat.le_trans HB.out.size HB2.out.size
    exact bodyPost_ret (v := .tuple #[.pointer (some ⟨w2.heap.size, 0, none⟩), .slice A fl.length c, .int .i64 0]) (by simp [results, Try.results40, go_sem]) rfl
      ⟨_, _, safe2, rfl, ⟨hs12, hbk, Own.nil _ _⟩, (own_tm HO.out HT2.out).below (below_alloc (Below.refl _ _) _), HS2.out.below (below_alloc (Below.refl _ _) _), ((HB.out.mono HLT.out.2).trans HB2.out).alloc (Nat.le_trans HLT.out.2 hs12) _, ((Tm.of HB.out).trans HT2.out).below (below_alloc (Below.refl _ _) _), fun e => by omega⟩
  · have q1 : decide ((en : Int) < (xs.length : Int)) = false := decide_eq_false (by omega)
    have HEN := Aside0.mk (show xs.take en = xs by rw [List.take_of_length_le (by omega)])
    go_enter Try.func40, Try.ntmps40
    go_wp2_with (first
      | (go_at_call 47; (with_reducible refine (bytes_c B g xs safe w H.out).mono ?_); rintro e w' ⟨rfl, rfl⟩)
      | (go_at_call 46; (with_reducible refine HR.out.mono ?_); rintro e w1 ⟨v, rfl, ho, hb⟩; have HO := Aside0.mk ho; have HB := Aside0.mk hb; have HS1 := Aside0.mk (H.out.below hb); (obtain ⟨A, c, rfl⟩ := ho.slice); clear ho hb)
      | (go_at_call 48; (with_reducible refine (len_c B g xs safe w1 HS1.out).mono ?_); rintro e w' ⟨rfl, rfl⟩))
    have hbk := blk_new w1 (.cells #[.pointer (some ⟨g, 0, none⟩), .int .i64 mm, .int .u64 (n : Int), .slice none 0 0, .int .i64 (fl.length : Int)] 98)
    exact bodyPost_ret (v := .tuple #[.pointer (some ⟨w1.heap.size, 0, none⟩), .slice A fl.length c, .int .i64 0]) (by simp [results, Try.results40, go_sem]) rfl
      ⟨_, _, safe, rfl, ⟨HB.out.size, hbk, Own.nil _ _⟩, HO.out.below (below_alloc (Below.refl _ _) _), by rw [HEN.out]; exact HS1.out.below (below_alloc (Below.refl _ _) _), (HB.out.mono HLT.out.2).alloc (Nat.le_trans HLT.out.2 HB.out.size) _, (Tm.of HB.out).below (below_alloc (Below.refl _ _) _), fun _ => rfl⟩
end Go.Proofs.Ythlllcmffgdcmaa.Book

namespace Go.Proofs.Ythlllcmffgdcmaa.Book
open Go.RowKit Go.Proofs.YthlllcmffgdcmaaW.PrintWords Go.Proofs.YthlllcmffgdcmaaW.PrintLast Go.Proofs.YthlllcmffgdcmaaW.PrintMore Go.Proofs.Ythlllcmffgdcmaa.Stores Go.Proofs.Ythlllcmffgdcmaa.LebPlain Go.Proofs.Ythlllcmffgdcmaa.LebWords Go.Proofs.Ythlllcmffgdcmaa.RecPlain Go.Proofs.Ythlllcmffgdcmaa.SegPlain Go.Proofs.Ythlllcmffgdcmaa.SegLinkQSegmentOpens
attribute [local go_sem] max2_int min2_int max_two min_two
set_option linter.unusedVariables false
set_option linter.unusedSimpArgs false
variable {rm : Int}

/-- But a store's blocks, a book's and a row's all is as it was. -/
def Fr (gb : Nat) (vw : Value) (w w' : World) : Prop := ∀ (i : Nat) (cs : Array Value) (t : TypeId), w.heap[i]? = some (.cells cs t (0, 0)) → t ≠ 95 → t ≠ 5 → i ≠ gb → vw.ownBlock ≠ some i → w'.heap[i]? = some (.cells cs t (0, 0))
theorem Fr.refl (gb : Nat) (vw : Value) (w : World) : Fr gb vw w w := fun _ _ _ h _ _ _ _ => h
theorem Fr.tm {gb : Nat} {vw : Value} {a b c : World} (h : Fr gb vw a b) (k : Tm b c) : Fr gb vw a c := fun i cs t hi h1 h2 h3 h4 => k i cs t (h i cs t hi h1 h2 h3 h4) h1 h2
theorem Fr.below {gb : Nat} {vw : Value} {a b c : World} (h : Fr gb vw a b) (k : Below b.heap.size b c) : Fr gb vw a c := h.tm (Tm.of k)
theorem Fr.set {gb : Nat} {vw : Value} {a b : World} (h : Fr gb vw a b) (i : Nat) (v : Value) : Fr gb vw a (b.setCell ⟨gb, i, none⟩ v) := fun k cs t hk h1 h2 h3 h4 => blk_far (h k cs t hk h1 h2 h3 h4) h3 v
theorem Fr.drew {gb : Nat} {vw : Value} {a b : World} (h : Fr gb vw a b) : Fr gb vw a b.drew := h
theorem Fr.grown {gb : Nat} {vw : Value} {a b c : World} (h : Fr gb vw a b) (hg : b.grownBy c vw.ownBlock) : Fr gb vw a c := fun k cs t hk h1 h2 h3 h4 => blk_grown (h k cs t hk h1 h2 h3 h4) hg (fun e => h4 e.symm)
/-- The bytes of a segment. -/
def segB (q : Nat) (ws : List Nat) : ByteArray := strB (frameL q (rowB ws))
theorem bl_segB (q : Nat) (ws : List Nat) : bl (segB q ws) = frameL q (rowB ws) := bl_strB _ (frameL_lt _ _ (rowB_lt ws))
theorem segB_size (q : Nat) (ws : List Nat) : (segB q ws).size = (frameL q (rowB ws)).length := by rw [← bl_length, bl_segB]
theorem body_le (ws : List Nat) (hn : ∀ n ∈ ws, n < 18446744073709551616) (hl : ws.length ≤ 400) : (bodyS ws).size ≤ 4096 := by
  have := rowB_len ws hn
  rw [bodyS_size]
  omega

theorem frame_calls' (q : Nat) (hq : q < 18446744073709551616) (ws : List Nat) (hn : ∀ n ∈ ws, n < 18446744073709551616) (hl : ws.length ≤ 400) (w : World) :
    Calls Try.prog 30 #[.int .u64 (q : Int), .string (bodyS ws)] w fun e w' => e = .returned (.tuple #[.string (segB q ws), .int .i64 0]) ∧ Below w.heap.size w w' :=
  Go.Proofs.Ythlllcmffgdcmaa.Spoilt.frame_calls q hq (bodyS ws) (segB q ws) (body_le ws hn hl) (by rw [bl_bodyS]; rfl) w

theorem sto_far {B : Nat} {w : World} {g : Nat} {xs : List Int} {safe : Int} (h : Sto rm B w g xs safe) {p : Addr} {cs : Array Value} {t : TypeId} (hb : w.heap[p.block]? = some (.cells cs t (0, 0))) (ht : t ≠ 95 ∧ t ≠ 5) (u : Value) : Sto rm B (w.setCell p u) g xs safe := by
  obtain ⟨h1, v, h2, h3⟩ := h
  exact ⟨h1, v, blk_far h2 (blk_ne h2 hb (Ne.symm ht.1)) u, own_setCell h3 (own_ne h3 hb (Ne.symm ht.2)) u⟩

set_option maxHeartbeats 4000000 in
set_option maxRecDepth 100000 in
theorem flush_calls (B gb g q : Nat) (m : Int) (vw : Value) (ws : List Nat) (sure safe : Int) (xs : List Int) (w : World) (hS : Sto rm B w g xs safe) (hK : Bk B w gb g m (q : Int) vw ws sure) (hq : q ≤ 1000000) (hn : ∀ n ∈ ws, n < 18446744073709551616) (h0 : 0 < ws.length) (hl : ws.length ≤ 400)
    (hx : ((xs.length + (segB q ws).size : Nat) : Int) ≤ rm) (hrm : rm ≤ 1048576) (hs0 : 0 ≤ sure) (hs1 : sure ≤ 1000000) : Calls Try.prog 44 #[.pointer (some ⟨gb, 0, none⟩)] w fun e w' =>
    e = .returned (.int .i64 0) ∧ Sto rm B w' g (xs ++ bytesOf (segB q ws)) ((xs ++ bytesOf (segB q ws)).length : Int) ∧ Bk B w' gb g m ((q : Int) + 1) (.slice none 0 0) [] (sure + ws.length) ∧ Below B w w' ∧ Fr gb vw w w' := by
  have HS := Aside0.mk hS
  have HK := Aside0.mk hK
  have HN := Aside0.mk hn
  have HX := Aside0.mk hx
  have HB := Aside0.mk (show B ≤ w.heap.size by have := hK.ge; have := blk_lt hK.blk; omega)
  obtain ⟨A, c, rfl⟩ := hK.row.slice
  have c2 : w.cell? ⟨gb, 2, none⟩ = some (.int .u64 (q : Int)) := (blk_cell hK.blk 2).trans rfl
  have c3 : w.cell? ⟨gb, 3, none⟩ = some (.slice A ws.length c) := (blk_cell hK.blk 3).trans rfl
  have HBK := Aside0.mk (bytes_calls' ws hn (by omega) B (.slice A ws.length c))
  have HFK := Aside0.mk (frame_calls' q (by omega) ws hn hl)
  have z1 : ((ws.length : Int) == 0) = false := by rw [beq_eq_false_iff_ne]; omega
  have z2 : decide ((ws.length : Int) = 0) = false := decide_eq_false (by omega)
  have H0 := Aside0.mk h0
  have h0' : ¬ ws.length = 0 := by omega
  clear hS hK hn hx
  go_enter Try.func44, Try.ntmps44
  go_upto_region 3 with (fail)
  go_region_held3 (fun w' => w'.cell? ⟨gb, 2, none⟩ = some (.int .u64 (q : Int)) ∧ w'.cell? ⟨gb, 3, none⟩ = some (.slice A ws.length c)) (first | (go_keep; done))
    ((first
      | (go_at_call 17; (first | refine (HBK.out _ HK.out.row).mono ?_ | refine (HBK.out _ (HK.out.row.below (Below.refl _ _).drew)).mono ?_); rintro e w1 ⟨rfl, hb⟩; have HB1 := Aside0.mk (below_then ((Below.refl w.heap.size w).drew) (Nat.le_refl _) hb); have y2 := pw_cell_below HB1.out c2; have y3 := pw_cell_below HB1.out c3; clear hb)
      | (go_at_call 30; refine (HFK.out _).mono ?_; rintro e w2 ⟨rfl, hb⟩; have HB2 := Aside0.mk (below_then HB1.out HB1.out.size hb); have v2 := pw_cell_below HB2.out c2; have v3 := pw_cell_below HB2.out c3; clear hb)))
  have HS2 := Aside0.mk (Sto.below HS.out HB2.out)
  have HK2 := Aside0.mk (HK.out.below HB2.out)
  have v0 : w2.cell? ⟨gb, 0, none⟩ = some (.pointer (some ⟨g, 0, none⟩)) := (blk_cell HK2.out.blk 0).trans rfl
  clear c2 c3 y2 y3 v2 v3 HBK HFK z1 z2
  go_upto_region 7 with (go_at_call 45; (with_reducible refine (append_free B g xs safe (segB q ws) w2 HS2.out HX.out hrm).mono ?_); rintro e w3 ⟨rfl, hs3, hb3, ht3⟩; have HS3 := Aside0.mk hs3; have HB3 := Aside0.mk ((HB2.out.mono HB.out).trans hb3); have HT3 := Aside0.mk ((Tm.of HB2.out).trans ht3); have HK3 := Aside0.mk (HK2.out.tm ht3); clear hs3 hb3 ht3 v0)
  have v0 : w3.cell? ⟨gb, 0, none⟩ = some (.pointer (some ⟨g, 0, none⟩)) := (blk_cell HK3.out.blk 0).trans rfl
  go_upto_region 10 with (go_at_call 60; (with_reducible refine (sync_free B g (xs ++ bytesOf (segB q ws)) safe w3 HS3.out).mono ?_); rintro e w4 ⟨rfl, hs4, hb4, ht4⟩; have HS4 := Aside0.mk hs4; have HB4 := Aside0.mk (HB3.out.trans hb4); have HT4 := Aside0.mk (HT3.out.trans ht4); have HK4 := Aside0.mk (HK3.out.tm ht4); clear hs4 hb4 ht4 v0)
  have hgb : gb ≠ g := by
    obtain ⟨_, v, hh, _⟩ := HS4.out
    exact blk_ne HK4.out.blk hh (by decide)
  have HGB := Aside0.mk hgb
  clear hgb
  have v2 : w4.cell? ⟨gb, 2, none⟩ = some (.int .u64 (q : Int)) := (blk_cell HK4.out.blk 2).trans rfl
  have f2 := blk_frozen HK4.out.blk 2
  go_upto_region 11 with (fail)
  have HK5 := Aside0.mk (show (w4.setCell ⟨gb, 2, none⟩ (.int .u64 ((q : Int) + 1))).heap[gb]? = some (.cells #[.pointer (some ⟨g, 0, none⟩), .int .i64 m, .int .u64 ((q : Int) + 1), .slice A ws.length c, .int .i64 sure] 98 (0, 0)) by simpa using blk_set HK4.out.blk 2 (.int .u64 ((q : Int) + 1)))
  have HS5 := Aside0.mk (sto_far HS4.out (p := ⟨gb, 2, none⟩) HK4.out.blk (by decide) (.int .u64 ((q : Int) + 1)))
  have HB5 := Aside0.mk (HB4.out.setCell (p := ⟨gb, 2, none⟩) HK.out.ge (.int .u64 ((q : Int) + 1)))
  have HF5 := Aside0.mk (((Fr.refl gb (.slice A ws.length c) w).tm HT4.out).set 2 (.int .u64 ((q : Int) + 1)))
  clear v2 f2
  change Code.wp _ _ _ _ (w4.setCell ⟨gb, 2, none⟩ (.int .u64 ((q : Int) + 1)))
  generalize w4.setCell ⟨gb, 2, none⟩ (.int .u64 ((q : Int) + 1)) = w5 at HK5 HS5 HB5 HF5 ⊢
  have v3 : w5.cell? ⟨gb, 3, none⟩ = some (.slice A ws.length c) := (blk_cell HK5.out 3).trans rfl
  have v4 : w5.cell? ⟨gb, 4, none⟩ = some (.int .i64 sure) := (blk_cell HK5.out 4).trans rfl
  have e1 : IntKind.i64.wrap (sure + (ws.length : Int)) = sure + (ws.length : Int) := by rw [IntKind.wrap_i64]; omega
  go_still_tail 12, (by kernel_rfl)
  change wpList _ _ _ _ _ w5.drew
  have HK6 := Aside0.mk (blk_drew HK5.out)
  have HS6 := Aside0.mk (HS5.out.below ((Below.refl w5.heap.size w5).drew))
  have HB6 := Aside0.mk HB5.out.drew
  have HF6 := Aside0.mk HF5.out.drew
  clear v3 v4
  generalize w5.drew = w6 at HK6 HS6 HB6 HF6 ⊢
  have v4 : w6.cell? ⟨gb, 4, none⟩ = some (.int .i64 sure) := (blk_cell HK6.out 4).trans rfl
  have f4 := blk_frozen HK6.out 4
  go_upto_region 12 with (fail)
  have HK7 := Aside0.mk (show (w6.setCell ⟨gb, 4, none⟩ (.int .i64 (sure + (ws.length : Int)))).heap[gb]? = some (.cells #[.pointer (some ⟨g, 0, none⟩), .int .i64 m, .int .u64 ((q : Int) + 1), .slice A ws.length c, .int .i64 (sure + (ws.length : Int))] 98 (0, 0)) by simpa using blk_set HK6.out 4 (.int .i64 (sure + (ws.length : Int))))
  have HS7 := Aside0.mk (sto_far HS6.out (p := ⟨gb, 4, none⟩) HK6.out (by decide) (.int .i64 (sure + (ws.length : Int))))
  have HB7 := Aside0.mk (HB6.out.setCell (p := ⟨gb, 4, none⟩) HK.out.ge (.int .i64 (sure + (ws.length : Int))))
  have HF7 := Aside0.mk (HF6.out.set 4 (.int .i64 (sure + (ws.length : Int))))
  clear v4 f4 e1
  change Code.wp _ _ _ _ (w6.setCell ⟨gb, 4, none⟩ (.int .i64 (sure + (ws.length : Int))))
  generalize w6.setCell ⟨gb, 4, none⟩ (.int .i64 (sure + (ws.length : Int))) = w7 at HK7 HS7 HB7 HF7 ⊢
  have v3 : w7.cell? ⟨gb, 3, none⟩ = some (.slice A ws.length c) := (blk_cell HK7.out 3).trans rfl
  have f3 := blk_frozen HK7.out 3
  go_wp2
  go_ret
  exact ⟨rfl, sto_far HS7.out (p := ⟨gb, 3, none⟩) HK7.out (by decide) _, ⟨HK.out.ge, by simpa using blk_set HK7.out 3 (.slice none 0 0), Own.nil _ _⟩, HB7.out.setCell HK.out.ge _, HF7.out.set 3 _⟩
end Go.Proofs.Ythlllcmffgdcmaa.Book

namespace Go.Proofs.Ythlllcmffgdcmaa.Book
open Go.RowKit Go.Proofs.YthlllcmffgdcmaaW.PrintWords Go.Proofs.YthlllcmffgdcmaaW.PrintLast Go.Proofs.Ythlllcmffgdcmaa.LebPlain Go.Proofs.Ythlllcmffgdcmaa.LebWords Go.Proofs.Ythlllcmffgdcmaa.RecPlain Go.Proofs.Ythlllcmffgdcmaa.SegPlain Go.Proofs.Ythlllcmffgdcmaa.SegLinkQSegmentOpens
set_option linter.unusedVariables false
set_option linter.unusedSimpArgs false

/-- The bytes of groups, numbered from q on. -/
def logF : Nat → List (List Nat) → List Nat
  | _, [] => []
  | q, g :: gs => frameL q (rowB g) ++ logF (q + 1) gs
theorem logF_append : ∀ (a b : List (List Nat)) (q : Nat), logF q (a ++ b) = logF q a ++ logF (q + a.length) b := by
  intro a
  induction a with
  | nil => intro b q; rfl
  | cons g a ih =>
    intro b q
    rw [List.cons_append, logF, logF, ih, List.append_assoc, List.length_cons, show q + 1 + a.length = q + (a.length + 1) by omega]
theorem logF_one (q : Nat) (g : List Nat) : logF q [g] = frameL q (rowB g) := by simp [logF]
theorem logF_snoc (a : List (List Nat)) (g : List Nat) : logF 0 (a ++ [g]) = logF 0 a ++ frameL a.length (rowB g) := by rw [logF_append, logF_one, Nat.zero_add]
theorem logF_lt : ∀ (gs : List (List Nat)) (q : Nat), ∀ b ∈ logF q gs, b < 256 := by
  intro gs
  induction gs with
  | nil => intro q b hb; cases hb
  | cons g gs ih =>
    intro q b hb
    rw [logF] at hb
    rcases List.mem_append.1 hb with h | h
    · exact frameL_lt _ _ (rowB_lt g) b h
    · exact ih _ b h
/-- Groups that may be. -/
def Good (gs : List (List Nat)) : Prop := ∀ g ∈ gs, 0 < g.length ∧ g.length ≤ 400 ∧ ∀ n ∈ g, n < 18446744073709551616
theorem Good.nil : Good [] := fun g hg => by cases hg
theorem Good.snoc {gs : List (List Nat)} {g : List Nat} (h : Good gs) (h0 : 0 < g.length) (h1 : g.length ≤ 400) (h2 : ∀ n ∈ g, n < 18446744073709551616) : Good (gs ++ [g]) := fun x hx => by
  rcases List.mem_append.1 hx with hx | hx
  · exact h x hx
  · rw [List.mem_singleton.1 hx]; exact ⟨h0, h1, h2⟩
theorem frame_size (q : Nat) (hq : q < 18446744073709551616) (g : List Nat) (h1 : g.length ≤ 400) (h2 : ∀ n ∈ g, n < 18446744073709551616) : 4 < (frameL q (rowB g)).length ∧ (frameL q (rowB g)).length ≤ 26 + 10 * g.length ∧ (rowB g).length ≤ 4096 := by
  have hb := rowB_len g h2
  have h3 := frameL_len q (rowB g)
  have h4 := headOf_len q (rowB g).length
  have h5 := putN_len q hq
  have h6 := putN_len (rowB g).length (by omega)
  omega
theorem log_size : ∀ (gs : List (List Nat)) (q : Nat), Good gs → q + gs.length < 18446744073709551616 → (logF q gs).length ≤ 36 * gs.flatten.length := by
  intro gs
  induction gs with
  | nil => intro q _ _; simp [logF]
  | cons g gs ih =>
    intro q h hq
    have hg := h g (List.mem_cons_self ..)
    rw [List.length_cons] at hq
    have h1 := frame_size q (by omega) g hg.2.1 hg.2.2
    have h2 := ih (q + 1) (fun x hx => h x (List.mem_cons_of_mem _ hx)) (by omega)
    rw [logF, List.length_append, List.flatten_cons, List.length_append]
    omega
/-- Where a segment begins. -/
def logE (gs : List (List Nat)) (i : Nat) : Nat := (logF 0 (gs.take i)).length
theorem logE_all (gs : List (List Nat)) : logE gs gs.length = (logF 0 gs).length := by rw [logE, List.take_length]
theorem split_log (gs : List (List Nat)) (i : Nat) (h : i < gs.length) : logF 0 gs = logF 0 (gs.take i) ++ (frameL i (rowB (gs.getD i [])) ++ logF (i + 1) (gs.drop (i + 1))) := by
  conv => lhs; rw [← List.take_append_drop i gs]
  rw [logF_append, List.length_take, Nat.zero_add, show min i gs.length = i by omega, List.drop_eq_getElem_cons h, logF]
  rw [List.getD_eq_getElem?_getD, List.getElem?_eq_getElem h]
  rfl
theorem logE_succ (gs : List (List Nat)) (i : Nat) (h : i < gs.length) : logE gs (i + 1) = logE gs i + (frameL i (rowB (gs.getD i []))).length := by
  unfold logE
  rw [List.take_succ_eq_append_getElem h, logF_append, logF_one, List.length_append, List.length_take, Nat.zero_add, show min i gs.length = i by omega, List.getD_eq_getElem?_getD, List.getElem?_eq_getElem h]
  rfl
theorem logE_le (gs : List (List Nat)) (i : Nat) : logE gs i ≤ (logF 0 gs).length := by
  have := congrArg (fun l => (logF 0 l).length) (List.take_append_drop i gs)
  rw [logF_append, List.length_append] at this
  unfold logE
  omega
theorem getD_mem (gs : List (List Nat)) (i : Nat) (h : i < gs.length) : gs.getD i [] ∈ gs := by
  rw [List.getD_eq_getElem?_getD, List.getElem?_eq_getElem h]; exact List.getElem_mem h

/-- A segment that stands whole. -/
theorem open_seg (gs : List (List Nat)) (hg : Good gs) (hl : gs.length < 1000000) (i : Nat) (h : i < gs.length) (s : ByteArray) (rest : List Nat) (hs : bl s = logF 0 (gs.take i) ++ (frameL i (rowB (gs.getD i [])) ++ rest)) :
    openR s (logE gs i : Int) = ((((0 + i) % 18446744073709551616 : Nat) : Int), bodyS (gs.getD i []), (logE gs (i + 1) : Int), 0) := by
  have hz : s.size = (bl s).length := (bl_length s).symm
  have hle : logE gs i ≤ s.size := by rw [hz, hs, List.length_append]; unfold logE; omega
  have hm := hg _ (getD_mem gs i h)
  have hf := frame_size i (by omega) _ hm.2.1 hm.2.2
  unfold openR
  rw [if_neg (by omega), Int.toNat_natCast, hs, show (logF 0 (List.take i gs) ++ (frameL i (rowB (gs.getD i [])) ++ rest)).drop (logE gs i) = frameL i (rowB (gs.getD i [])) ++ rest from List.drop_left' rfl, openL_frame i _ _ (by omega) hf.2.2]
  unfold openA
  rw [if_pos rfl, logE_succ gs i h]
  simp only [Nat.zero_add]
  rw [Nat.mod_eq_of_lt (by omega)]
  rfl

/-- What is no segment's begin. -/
theorem openL_junk (c : Nat) (l : List Nat) (hc : c ≠ 83) : (openL (c :: l)).2.2.2 ≠ 0 := by
  have h : headL (c :: l) = (0, 0, 0, 1) := by
    unfold headL
    rw [if_neg (by simp), if_pos (by simpa using hc)]
  unfold openL
  rw [h, if_pos (by decide)]
  decide
theorem openL_none : (openL []).2.2.2 ≠ 0 := by unfold openL headL; simp

/-- A log is read whole, whatever stands behind it that is no segment. -/
theorem whole_log (gs : List (List Nat)) (hg : Good gs) (hmany : gs.flatten.length ≤ 1000) (s : ByteArray) (junk : List Nat) (hs : bl s = logF 0 gs ++ junk) (hj : (openL junk).2.2.2 ≠ 0) (hjl : junk.length ≤ 900000) : Whole s gs (logE gs) := by
  have hlen := many_le gs fun g h => (hg g h).1
  have hsz := log_size gs 0 hg (by omega)
  have hz : s.size = (logF 0 gs).length + junk.length := by rw [← bl_length, hs, List.length_append]
  refine ⟨by omega, rfl, fun i hi => ?_, fun i hi => ?_, ?_, fun g h => ⟨(hg g h).1, (hg g h).2.2⟩, hmany⟩
  · exact open_seg gs hg (by omega) i hi s (logF (i + 1) (gs.drop (i + 1)) ++ junk) (by rw [hs, split_log gs i hi, List.append_assoc, List.append_assoc])
  · have hm := hg _ (getD_mem gs i hi)
    have hf := frame_size i (by omega) _ hm.2.1 hm.2.2
    have h1 := logE_succ gs i hi
    have h2 := logE_le gs (i + 1)
    omega
  · rw [logE_all]
    unfold openR
    rw [if_neg (by omega), Int.toNat_natCast, hs, List.drop_left]
    unfold openA
    split
    · rename_i h; exact absurd h hj
    · intro e
      apply hj
      have : (((openL junk).2.2.2 : Nat) : Int) = 0 := e
      omega
end Go.Proofs.Ythlllcmffgdcmaa.Book

namespace Go.Proofs.Ythlllcmffgdcmaa.Book
open Go.RowKit Go.Proofs.YthlllcmffgdcmaaW.PrintWords Go.Proofs.YthlllcmffgdcmaaW.PrintLast Go.Proofs.YthlllcmffgdcmaaW.PrintMore Go.Proofs.Ythlllcmffgdcmaa.Stores Go.Proofs.Ythlllcmffgdcmaa.LebPlain Go.Proofs.Ythlllcmffgdcmaa.LebWords Go.Proofs.Ythlllcmffgdcmaa.RecPlain Go.Proofs.Ythlllcmffgdcmaa.SegPlain Go.Proofs.Ythlllcmffgdcmaa.SegLinkQSegmentOpens
open Go.Proofs.Ythlllcmffgdcmaa.RecRecordReads (recP)
attribute [local go_sem] max2_int min2_int max_two min_two
set_option linter.unusedVariables false
set_option linter.unusedSimpArgs false
variable {rm : Int}

theorem check_ok (n : Nat) (h : n < 18446744073709551616) (w : World) : Calls Try.prog 23 #[.agg #[.int .i64 ((n % 4 + 1 : Nat) : Int), .int .u64 ((n / 4 : Nat) : Int)]] w fun e w' => e = .returned (.int .i64 0) ∧ Below w.heap.size w w' := by
  have hf : Go.Proofs.Ythlllcmffgdcmaa.Reads.record_Record_Check.f 1 ((n % 4 + 1 : Nat) : Int) ((n / 4 : Nat) : Int) = some 0 := by
    unfold Go.Proofs.Ythlllcmffgdcmaa.Reads.record_Record_Check.f
    rw [if_neg (by omega), Go.Proofs.Ythlllcmffgdcmaa.Reads.record_Record_Check.j0, show decide (((n % 4 + 1 : Nat) : Int) > 4) = false from decide_eq_false (by omega), if_neg (by decide), if_neg (by omega)]
  exact Go.Proofs.Ythlllcmffgdcmaa.Reads.record_Record_Check.calls 1 _ _ 0 w hf

/-- Where a row lies behind a call: where it lay, or in a block of its own. -/
def Moved (w : World) (v v' : Value) : Prop := ∀ k, v'.ownBlock = some k → v.ownBlock = some k ∨ w.heap.size ≤ k
theorem Moved.refl (w : World) (v : Value) : Moved w v v := fun _ h => .inl h
theorem Moved.nil (w : World) (v : Value) (n c : Nat) : Moved w v (.slice none n c) := fun k h => by simp [Value.ownBlock] at h

/-- What adding leaves, ahead of any flush. -/
structure Put (rm : Int) (B gb g q : Nat) (m : Int) (vw : Value) (ws : List Nat) (r : Nat) (sure safe : Int) (xs : List Int) (w : World) (vw' : Value) (w' : World) : Prop where
  sto : Sto rm B w' g xs safe
  bk : Bk B w' gb g m (q : Int) vw' (ws ++ [r]) sure
  below : Below B w w'
  fr : Fr gb vw w w'
  moved : Moved w vw vw'

theorem Put.on {B gb g q : Nat} {m : Int} {vw : Value} {ws : List Nat} {r : Nat} {sure safe : Int} {xs : List Int} {w : World} {vw' : Value} {w1 w2 : World} (h : Put rm B gb g q m vw ws r sure safe xs w vw' w1) (hb : Below w1.heap.size w1 w2) (hB : B ≤ w1.heap.size) : Put rm B gb g q m vw ws r sure safe xs w vw' w2 :=
  ⟨h.sto.below hb, h.bk.below hb, h.below.trans (hb.mono hB), h.fr.below hb, h.moved⟩

set_option maxHeartbeats 4000000 in
set_option maxRecDepth 100000 in
theorem add_calls (B gb g q : Nat) (m : Int) (vw : Value) (ws : List Nat) (r : Nat) (sure safe : Int) (xs : List Int) (w : World) (hS : Sto rm B w g xs safe) (hK : Bk B w gb g m (q : Int) vw ws sure) (hr : r < 18446744073709551616) (hl : ws.length ≤ 400) (P : World → Prop)
    (hkeep : ((ws.length : Int) + 1 < m) → ∀ vw' w', Put rm B gb g q m vw ws r sure safe xs w vw' w' → P w')
    (hflush : ¬ ((ws.length : Int) + 1 < m) → ∀ vw' w1, Put rm B gb g q m vw ws r sure safe xs w vw' w1 → Calls Try.prog 44 #[.pointer (some ⟨gb, 0, none⟩)] w1 fun e w' => e = .returned (.int .i64 0) ∧ P w') :
    Calls Try.prog 43 #[.pointer (some ⟨gb, 0, none⟩), .agg #[.int .i64 ((r % 4 + 1 : Nat) : Int), .int .u64 ((r / 4 : Nat) : Int)]] w fun e w' => e = .returned (.int .i64 0) ∧ P w' := by
  have HS := Aside0.mk hS
  have HK := Aside0.mk hK
  have HKP := Aside0.mk hkeep
  have HFL := Aside0.mk hflush
  have HB := Aside0.mk (show B ≤ w.heap.size by have := hK.ge; have := blk_lt hK.blk; omega)
  have HL := Aside0.mk hl
  obtain ⟨A, c, rfl⟩ := hK.row.slice
  have hck := check_ok r hr
  obtain ⟨kd, hkd⟩ : ∃ kd : Int, ((r % 4 + 1 : Nat) : Int) = kd := ⟨_, rfl⟩
  obtain ⟨nm, hnm⟩ : ∃ nm : Int, ((r / 4 : Nat) : Int) = nm := ⟨_, rfl⟩
  have HRC := Aside0.mk (show [Value.int .i64 kd, .int .u64 nm] = rc r by unfold rc; rw [hkd, hnm])
  rw [hkd, hnm] at hck ⊢
  have HCK := Aside0.mk hck
  obtain ⟨j0, hj0, hz0, hz1, hz2⟩ := info_parts info31
  have HJ := Aside0.mk (And.intro hj0 (And.intro hz0 (And.intro hz1 hz2)))
  clear hS hK hkeep hflush hck hkd hnm hj0 hz0 hz1 hz2 hr
  go_enter Try.func43, Try.ntmps43
  have hw0 := below_alloc (Below.refl w.heap.size w) (.cells #[.int .i64 kd, .int .u64 nm] 31)
  have hz0 := blk_new w (.cells #[.int .i64 kd, .int .u64 nm] 31)
  have y0 : (w.alloc (.cells #[.int .i64 kd, .int .u64 nm] 31)).cell? ⟨w.heap.size, 0, none⟩ = some (.int .i64 kd) := (blk_cell hz0 0).trans rfl
  have y1 : (w.alloc (.cells #[.int .i64 kd, .int .u64 nm] 31)).cell? ⟨w.heap.size, 1, none⟩ = some (.int .u64 nm) := (blk_cell hz0 1).trans rfl
  have HW0 := Aside0.mk hw0
  have HZ0 := Aside0.mk hz0
  clear hw0 hz0
  go_upto_region 4 with (go_at_call 23; (with_reducible refine (HCK.out _).mono ?_); rintro e w1 ⟨rfl, hb⟩; have HB1 := Aside0.mk (below_then HW0.out HW0.out.size hb); have HZ1 := Aside0.mk (blk_below HZ0.out hb); clear hb y0 y1)
  have HS1 := Aside0.mk (HS.out.below HB1.out)
  have HK1 := Aside0.mk (HK.out.below HB1.out)
  obtain ⟨z, hz⟩ : ∃ z, w.heap.size = z := ⟨_, rfl⟩
  have HZZ := Aside0.mk hz
  have HZL := Aside0.mk (show w.heap.size < w1.heap.size from blk_lt HZ1.out)
  rw [hz] at HZ1 ⊢
  clear hz HZ0 HW0
  have k3 : w1.cell? ⟨gb, 3, none⟩ = some (.slice A ws.length c) := (blk_cell HK1.out.blk 3).trans rfl
  have y0 : w1.cell? ⟨z, 0, none⟩ = some (.int .i64 kd) := (blk_cell HZ1.out 0).trans rfl
  have y1 : w1.cell? ⟨z, 1, none⟩ = some (.int .u64 nm) := (blk_cell HZ1.out 1).trans rfl
  have k3' := pw_cell_below (below_alloc (Below.refl _ _) (.cells #[.int .i64 kd, .int .u64 nm] 31)) k3
  go_region_law ((refine step_append_lies _ (by rfl) (.tmp 15) (.tmp 17) 24 (by rfl) B 31 j0 _ 2 16 Try.underlying24 HJ.out.1 HJ.out.2.1 HJ.out.2.2.1 HJ.out.2.2.2 rfl (by omega) _ ws.length (rcs ws) (by simp [Act.eval, Act.put]) (World.ownsRow.alloc HK1.out.row _) ⟨w1.heap.size, 0, none⟩ 1 1 [.int .i64 kd, .int .u64 nm] (by simp [Act.eval, Act.put]) (by rfl) (World.news_of_block (cs := #[.int .i64 kd, .int .u64 nm]) (t := 31) (fr := (0, 0)) (heap_alloc_new w1 _)) (by simp [Value.oneCell']) (by omega) (by have := HL.out; unfold maxLen; omega) (by have := HL.out; omega) (by have := HB.out; have := HZL.out; simp; omega) (w1.heap.size + 1) (by simp) ?_; intro gg cap w3 hown1 hgrow hat hlt; have HB3 := Aside0.mk (blk_grown (blk_drew (blk_alloc HK1.out.blk (.cells #[.int .i64 kd, .int .u64 nm] 31))) hgrow (own_ne HK1.out.row HK1.out.blk (by decide))); have d4 := (blk_cell HB3.out 3).trans rfl; have f4 := blk_frozen HB3.out 3; have HO3 := Aside0.mk hown1; have HG3 := Aside0.mk hgrow; have HAT := Aside0.mk hat; clear hown1 hgrow hat hlt))
  all_goals
    have hPut : Put rm B gb g q m (.slice A ws.length c) ws r sure safe xs w (.slice (some ⟨gg, 0, none⟩) (ws.length + 1) cap) (w3.setCell ⟨gb, 3, none⟩ (.slice (some ⟨gg, 0, none⟩) (ws.length + 1) cap)) := by
      have hb1 : Below B w ((w1.alloc (.cells #[.int .i64 kd, .int .u64 nm] 31)).drew) := ((HB1.out.mono HB.out).alloc (by have := HB.out; have := HZL.out; omega) _).drew
      have ho3 : Own w3 B (.slice (some ⟨gg, 0, none⟩) (ws.length + 1) cap) (ws ++ [r]) := by
        have h := HO3.out
        unfold Own
        rw [List.length_append, rcs_append]
        have e : rcs [r] = [.int .i64 kd, .int .u64 nm] := by rw [HRC.out]; rfl
        rw [e]
        exact h
      have hs1 : Sto rm B ((w1.alloc (.cells #[.int .i64 kd, .int .u64 nm] 31)).drew) g xs safe := HS1.out.below ((below_alloc (Below.refl _ _) _).drew)
      have hs3 : Sto rm B w3 g xs safe := by
        obtain ⟨h1, v, h2, h3⟩ := hs1
        refine ⟨h1, v, blk_grown h2 HG3.out (fun e => ?_), own_other h3 HG3.out ?_⟩
        · exact own_ne (World.ownsRow.alloc HK1.out.row (.cells #[.int .i64 kd, .int .u64 nm] 31)) h2 (by decide) e
        · rcases own_type_ne h3 (World.ownsRow.alloc HK1.out.row (.cells #[.int .i64 kd, .int .u64 nm] 31)) (by decide) with h | h
          · exact .inl h
          · exact .inr (fun e => h e)
      refine ⟨sto_far hs3 (p := ⟨gb, 3, none⟩) HB3.out (by decide) _, ⟨HK.out.ge, by simpa using blk_set HB3.out 3 (.slice (some ⟨gg, 0, none⟩) (ws.length + 1) cap), own_setCell ho3 (p := ⟨gb, 3, none⟩) (own_ne ho3 HB3.out (by decide)) _⟩, (hb1.grown HG3.out (by have := HB.out; have := HZL.out; simp; omega) (own_base HK1.out.row)).setCell HK.out.ge _, ?_, fun k hk => ?_⟩
      · exact (((((Fr.refl gb (.slice A ws.length c) w).below HB1.out).below (below_alloc (Below.refl _ _) _)).drew).grown HG3.out).set 3 _
      · have e : gg = k := by simpa [Value.ownBlock] using hk
        subst e
        rcases HAT.out with h | h
        · exact .inl h
        · exact .inr (by have := HZL.out; omega)
    have HPT := Aside0.mk hPut
    clear hPut d4 f4 k3 y0 y1 k3'
    generalize w3.setCell ⟨gb, 3, none⟩ (.slice (some ⟨gg, 0, none⟩) (ws.length + 1) cap) = w4 at HPT ⊢
    have k3 : w4.cell? ⟨gb, 3, none⟩ = some (.slice (some ⟨gg, 0, none⟩) (ws.length + 1) cap) := (blk_cell HPT.out.bk.blk 3).trans rfl
    have k1 : w4.cell? ⟨gb, 1, none⟩ = some (.int .i64 m) := (blk_cell HPT.out.bk.blk 1).trans rfl
    have hcase : (ws.length : Int) + 1 < m ∨ ¬ (ws.length : Int) + 1 < m := by omega
    have hsz : B ≤ w4.heap.size := by have := HPT.out.bk.ge; have := blk_lt HPT.out.bk.blk; omega
    rcases hcase with hc | hc
    · have q1 : decide ((ws.length : Int) + 1 < m) = true := decide_eq_true hc
      have HC := Aside0.mk hc
      clear hc
      go_wp2
      go_quiet (fail)
      go_wp2
      go_ret
      exact ⟨rfl, HKP.out HC.out _ _ (HPT.out.on (pw_below_drewN (Below.refl _ _) _) hsz)⟩
    · have q1 : decide ((ws.length : Int) + 1 < m) = false := decide_eq_false hc
      have HC := Aside0.mk hc
      clear hc
      go_wp2
      go_quiet (fail)
      go_wp2_with (go_at_call 44; refine (HFL.out HC.out _ _ (HPT.out.on (pw_below_drewN (Below.refl _ _) _) hsz)).mono ?_; rintro e w5 ⟨rfl, hp⟩; have HPP := Aside0.mk hp; clear hp)
      go_ret
      exact ⟨rfl, HPP.out⟩
end Go.Proofs.Ythlllcmffgdcmaa.Book

namespace Go.Proofs.Ythlllcmffgdcmaa.Book
open Go.RowKit Go.Proofs.YthlllcmffgdcmaaW.PrintWords Go.Proofs.YthlllcmffgdcmaaW.PrintLast Go.Proofs.YthlllcmffgdcmaaW.PrintMore Go.Proofs.Ythlllcmffgdcmaa.Stores Go.Proofs.Ythlllcmffgdcmaa.LebPlain Go.Proofs.Ythlllcmffgdcmaa.LebWords Go.Proofs.Ythlllcmffgdcmaa.RecPlain Go.Proofs.Ythlllcmffgdcmaa.SegPlain Go.Proofs.Ythlllcmffgdcmaa.SegLinkQSegmentOpens
attribute [local go_sem] max2_int min2_int max_two min_two
set_option linter.unusedVariables false
set_option linter.unusedSimpArgs false

theorem bytesOf_bl (y : ByteArray) : bytesOf y = (bl y).map Int.ofNat := by
  unfold bytesOf bl
  rw [List.map_map]
  rfl
theorem ints_append (a b : List Nat) : (a ++ b).map Int.ofNat = a.map Int.ofNat ++ b.map Int.ofNat := List.map_append

/-- A book and its store: the groups that are written, what waits. -/
structure Bo (S : Prop) (rm : Int) (B : Nat) (w0 w : World) (gb g : Nat) (m : Int) (vw : Value) (gs : List (List Nat)) (ws : List Nat) : Prop where
  sto : ∃ safe, Sto rm B w g ((logF 0 gs).map Int.ofNat) safe ∧ (S → safe = (((logF 0 gs).map Int.ofNat).length : Int))
  bk : Bk B w gb g m (gs.length : Int) vw ws (gs.flatten.length : Int)
  good : Good gs
  codes : ∀ n ∈ ws, n < 18446744073709551616
  below : Below B w0 w
  room : (ws.length : Int) < m
  m1 : 1 ≤ m
  m400 : m ≤ 400
/-- How many decisions there are. -/
def tot (gs : List (List Nat)) (ws : List Nat) : Nat := gs.flatten.length + ws.length
/-- One more. -/
def addG (m : Int) (gs : List (List Nat)) (ws : List Nat) (r : Nat) : List (List Nat) := if (ws.length : Int) + 1 < m then gs else gs ++ [ws ++ [r]]
def addW (m : Int) (ws : List Nat) (r : Nat) : List Nat := if (ws.length : Int) + 1 < m then ws ++ [r] else []
/-- What waits, written. -/
def fluG (gs : List (List Nat)) (ws : List Nat) : List (List Nat) := if ws.length = 0 then gs else gs ++ [ws]
theorem add_flat (m : Int) (gs : List (List Nat)) (ws : List Nat) (r : Nat) : (addG m gs ws r).flatten ++ addW m ws r = gs.flatten ++ ws ++ [r] := by
  unfold addG addW
  split
  · rw [List.append_assoc]
  · rw [List.flatten_append, List.append_nil]
    simp
theorem flu_flat (gs : List (List Nat)) (ws : List Nat) : (fluG gs ws).flatten = gs.flatten ++ ws := by
  unfold fluG
  split
  · rename_i h
    rw [List.eq_nil_of_length_eq_zero h, List.append_nil]
  · rw [List.flatten_append]
    simp

variable {S : Prop} {rm : Int} {B : Nat} {w0 w w' : World} {gb g : Nat} {m : Int} {vw vw' : Value} {gs : List (List Nat)} {ws : List Nat}
theorem Bo.on (h : Bo S rm B w0 w gb g m vw gs ws) (hb : Below w.heap.size w w') : Bo S rm B w0 w' gb g m vw gs ws := by
  obtain ⟨safe, hs, hsf⟩ := h.sto
  have hB : B ≤ w.heap.size := by have := h.bk.ge; have := blk_lt h.bk.blk; omega
  exact ⟨⟨safe, hs.below hb, hsf⟩, h.bk.below hb, h.good, h.codes, below_then h.below hB hb, h.room, h.m1, h.m400⟩
theorem Bo.bsz (h : Bo S rm B w0 w gb g m vw gs ws) : B ≤ w.heap.size := by have := h.bk.ge; have := blk_lt h.bk.blk; omega

/-- What a book's call leaves. -/
structure Left (S : Prop) (rm : Int) (B : Nat) (w0 : World) (gb g : Nat) (m : Int) (vw : Value) (w : World) (vw' : Value) (gs : List (List Nat)) (ws : List Nat) (w' : World) : Prop where
  bo : Bo S rm B w0 w' gb g m vw' gs ws
  fr : Fr gb vw w w'
  moved : Moved w vw vw'
  size : w.heap.size ≤ w'.heap.size

set_option maxHeartbeats 1000000 in
theorem flush_none (B gb g : Nat) (m q : Int) (vw : Value) (sure : Int) (w : World) (hK : Bk B w gb g m q vw [] sure) : Calls Try.prog 44 #[.pointer (some ⟨gb, 0, none⟩)] w fun e w' => e = .returned (.int .i64 0) ∧ w = w' := by
  obtain ⟨A, c, rfl⟩ := hK.row.slice
  have c3 : w.cell? ⟨gb, 3, none⟩ = some (.slice A 0 c) := (blk_cell hK.blk 3).trans rfl
  clear hK
  go_enter Try.func44, Try.ntmps44
  go_wp2
  go_ret
  exact ⟨rfl, rfl⟩

theorem seg_fits (gs : List (List Nat)) (ws : List Nat) (hg : Good gs) (h0 : 0 < ws.length) (hc : ∀ n ∈ ws, n < 18446744073709551616) (h4 : ws.length ≤ 400) (ht : tot gs ws ≤ 1000) : (logF 0 gs).length + (segB gs.length ws).size ≤ 36 * tot gs ws ∧ gs.length ≤ 1000 := by
  have hl := many_le gs fun x hx => (hg x hx).1
  unfold tot at ht ⊢
  have h1 := log_size (gs ++ [ws]) 0 (hg.snoc h0 h4 hc) (by rw [List.length_append]; simp; omega)
  rw [logF_snoc, List.length_append, List.flatten_append, List.length_append] at h1
  rw [segB_size]
  simp only [List.flatten_cons, List.flatten_nil, List.append_nil] at h1
  omega
theorem flush_bo (h : Bo S rm B w0 w gb g m vw gs ws) (ht : tot gs ws ≤ 1000) (hr : ((36 * tot gs ws : Nat) : Int) ≤ rm) (hrm : rm ≤ 1048576) (h4 : ws.length ≤ 400) : Calls Try.prog 44 #[.pointer (some ⟨gb, 0, none⟩)] w fun e w' =>
    e = .returned (.int .i64 0) ∧ ∃ vw', Left S rm B w0 gb g m vw w vw' (fluG gs ws) [] w' := by
  obtain ⟨safe, hs, hsf⟩ := h.sto
  rcases Nat.eq_zero_or_pos ws.length with h0 | h0
  · obtain rfl : ws = [] := List.eq_nil_of_length_eq_zero h0
    exact (flush_none B gb g m _ vw _ w h.bk).mono fun e w' ⟨h1, h2⟩ => ⟨h1, vw, by subst h2; exact ⟨h, Fr.refl _ _ _, Moved.refl _ _, Nat.le_refl _⟩⟩
  · have hf := seg_fits gs ws h.good h0 h.codes h4 ht
    unfold tot at ht hr hf
    refine (flush_calls B gb g gs.length m vw ws _ safe _ w hs h.bk (by omega) h.codes h0 h4 (by rw [List.length_map]; omega) hrm (by omega) (by omega)).mono fun e w' ⟨h1, h2, h3, h5, h6⟩ => ⟨h1, .slice none 0 0, ?_⟩
    have hb : Bo S rm B w0 w' gb g m (.slice none 0 0) (fluG gs ws) [] := by
      unfold fluG
      rw [if_neg (by omega)]
      refine ⟨⟨_, by rw [logF_snoc, ints_append, ← bl_segB, ← bytesOf_bl]; exact h2, fun _ => by rw [logF_snoc, ints_append, ← bl_segB, ← bytesOf_bl]⟩, ?_, h.good.snoc h0 h4 h.codes, (fun n hn => by cases hn), h.below.trans h5, by have := h.m1; simp; omega, h.m1, h.m400⟩
      have e1 : (((gs ++ [ws]).length : Nat) : Int) = (gs.length : Int) + 1 := by rw [List.length_append]; rfl
      have e2 : (((gs ++ [ws]).flatten.length : Nat) : Int) = (gs.flatten.length : Int) + (ws.length : Int) := by rw [List.flatten_append, List.length_append]; simp
      rw [e1, e2]
      exact h3
    exact ⟨hb, h6, Moved.nil _ _ _ _, h5.size⟩
theorem put_bo {r : Nat} {safe : Int} (h : Bo S rm B w0 w gb g m vw gs ws) (hsf : S → safe = (((logF 0 gs).map Int.ofNat).length : Int)) (hp : Put rm B gb g gs.length m vw ws r (gs.flatten.length : Int) safe ((logF 0 gs).map Int.ofNat) w vw' w') (hr : r < 18446744073709551616) (hm : (ws.length : Int) + 1 < m) : Bo S rm B w0 w' gb g m vw' gs (ws ++ [r]) :=
  ⟨⟨safe, hp.sto, hsf⟩, hp.bk, h.good, fun n hn => by
    rcases List.mem_append.1 hn with hn | hn
    · exact h.codes n hn
    · rw [List.mem_singleton.1 hn]; exact hr, h.below.trans hp.below, by rw [List.length_append]; simp; omega, h.m1, h.m400⟩
theorem Moved.trans {a b : World} {v v' v'' : Value} (h : Moved a v v') (k : Moved b v' v'') (hs : a.heap.size ≤ b.heap.size) : Moved a v v'' := fun i hi => by
  rcases k i hi with h1 | h1
  · exact h i h1
  · exact .inr (Nat.le_trans hs h1)
theorem Fr.trans {a b c : World} {v v' : Value} (h : Fr gb v a b) (k : Fr gb v' b c) (hm : Moved a v v') : Fr gb v a c := fun i cs t hi h1 h2 h3 h4 => k i cs t (h i cs t hi h1 h2 h3 h4) h1 h2 h3 (fun e => by
  rcases hm i e with h5 | h5
  · exact h4 h5
  · have := blk_lt hi; omega)
theorem add_bo (r : Nat) (h : Bo S rm B w0 w gb g m vw gs ws) (hr : r < 18446744073709551616) (ht : tot gs ws < 1000) (hr1 : ((36 * (tot gs ws + 1) : Nat) : Int) ≤ rm) (hrm : rm ≤ 1048576) : Calls Try.prog 43 #[.pointer (some ⟨gb, 0, none⟩), .agg #[.int .i64 ((r % 4 + 1 : Nat) : Int), .int .u64 ((r / 4 : Nat) : Int)]] w fun e w' =>
    e = .returned (.int .i64 0) ∧ ∃ vw', Left S rm B w0 gb g m vw w vw' (addG m gs ws r) (addW m ws r) w' := by
  obtain ⟨safe, hs, hsf⟩ := h.sto
  have hw4 : ws.length < 400 := by have := h.room; have := h.m400; omega
  unfold tot at ht hr1
  refine add_calls B gb g gs.length m vw ws r _ safe _ w hs h.bk hr (by omega) _ (fun hm vw' w' hp => ?_) (fun hm vw' w1 hp => ?_)
  · have e1 : addG m gs ws r = gs := if_pos hm
    have e2 : addW m ws r = ws ++ [r] := if_pos hm
    rw [e1, e2]
    exact ⟨vw', put_bo h hsf hp hr hm, hp.fr, hp.moved, hp.below.size⟩
  · have e1 : addG m gs ws r = gs ++ [ws ++ [r]] := if_neg hm
    have e2 : addW m ws r = [] := if_neg hm
    have hc : ∀ n ∈ ws ++ [r], n < 18446744073709551616 := fun n hn => by
      rcases List.mem_append.1 hn with hn | hn
      · exact h.codes n hn
      · rw [List.mem_singleton.1 hn]; exact hr
    have hlen : (ws ++ [r]).length = ws.length + 1 := by simp
    have hf := seg_fits gs (ws ++ [r]) h.good (by omega) hc (by omega) (by unfold tot; omega)
    unfold tot at hf
    rw [hlen] at hf
    rw [e1, e2]
    refine (flush_calls B gb g gs.length m vw' (ws ++ [r]) _ safe _ w1 hp.sto hp.bk (by omega) hc (by omega) (by omega) (by rw [List.length_map]; omega) hrm (by omega) (by omega)).mono fun e w' ⟨h1, h2, h3, h5, h6⟩ => ⟨h1, .slice none 0 0, ⟨⟨⟨_, by rw [logF_snoc, ints_append, ← bl_segB, ← bytesOf_bl]; exact h2, fun _ => by rw [logF_snoc, ints_append, ← bl_segB, ← bytesOf_bl]⟩, ?_, h.good.snoc (by omega) (by omega) hc, (fun n hn => by cases hn), (h.below.trans hp.below).trans h5, by have := h.m1; simp; omega, h.m1, h.m400⟩, hp.fr.trans h6 hp.moved, Moved.nil _ _ _ _, Nat.le_trans hp.below.size h5.size⟩⟩
    have e1 : (((gs ++ [ws ++ [r]]).length : Nat) : Int) = (gs.length : Int) + 1 := by rw [List.length_append]; rfl
    have e2 : (((gs ++ [ws ++ [r]]).flatten.length : Nat) : Int) = (gs.flatten.length : Int) + ((ws ++ [r]).length : Int) := by rw [List.flatten_append, List.length_append]; simp
    rw [e1, e2]
    exact h3
end Go.Proofs.Ythlllcmffgdcmaa.Book

namespace Go.Proofs.Ythlllcmffgdcmaa.Book
open Go.RowKit Go.Proofs.YthlllcmffgdcmaaW.PrintWords Go.Proofs.YthlllcmffgdcmaaW.PrintLast Go.Proofs.YthlllcmffgdcmaaW.PrintMore Go.Proofs.Ythlllcmffgdcmaa.Stores Go.Proofs.Ythlllcmffgdcmaa.LebPlain Go.Proofs.Ythlllcmffgdcmaa.LebWords Go.Proofs.Ythlllcmffgdcmaa.RecPlain Go.Proofs.Ythlllcmffgdcmaa.SegPlain Go.Proofs.Ythlllcmffgdcmaa.SegLinkQSegmentOpens
attribute [local go_sem] max2_int min2_int max_two min_two
set_option linter.unusedVariables false
set_option linter.unusedSimpArgs false
variable {S : Prop} {rm : Int} {B : Nat} {w0 w w' : World} {gb g : Nat} {m : Int} {vw vw' : Value} {gs : List (List Nat)} {ws : List Nat}

theorem most_le (size : Int) : 1 ≤ most size ∧ most size ≤ 400 := by unfold most; split <;> split <;> omega
theorem text_bl (l : List Nat) (h : ∀ b ∈ l, b < 256) : bl (strOfNums (l.map Int.ofNat)) = l := bl_strB l h
theorem Bk.lower {B' : Nat} {q sure : Int} (h : Bk B w gb g m q vw ws sure) (hB : B' ≤ B) : Bk B' w gb g m q vw ws sure := ⟨Nat.le_trans hB h.ge, h.blk, own_weaken h.row hB⟩

theorem open_bo (junk : List Nat) (safe size : Int) (h : Sto rm B w g ((logF 0 gs ++ junk).map Int.ofNat) safe) (hg : Good gs) (hmany : gs.flatten.length ≤ 1000) (hj : (openL junk).2.2.2 ≠ 0) (hjl : junk.length ≤ 900000) (hjb : ∀ b ∈ junk, b < 256) (hb : Below B w0 w) (hSf : S → junk = [] ∧ safe = (((logF 0 gs).map Int.ofNat).length : Int)) :
    Calls Try.prog 40 #[.pointer (some ⟨g, 0, none⟩), .int .i64 size] w fun e w' => ∃ gb v, e = .returned (.tuple #[.pointer (some ⟨gb, 0, none⟩), v, .int .i64 0]) ∧ Bo S rm B w0 w' gb g (most size) (.slice none 0 0) gs [] ∧ Own w' w.heap.size v gs.flatten ∧ Tm w w' ∧ w.heap.size ≤ gb ∧ w.heap.size ≤ w'.heap.size := by
  have hlt : ∀ b ∈ logF 0 gs ++ junk, b < 256 := fun b hb => by
    rcases List.mem_append.1 hb with h | h
    · exact logF_lt gs 0 b h
    · exact hjb b h
  have hW := whole_log gs hg hmany (strOfNums ((logF 0 gs ++ junk).map Int.ofNat)) junk (text_bl _ hlt) hj hjl
  have hlen := many_le gs fun g h => (hg g h).1
  have hsz := log_size gs 0 hg (by omega)
  have hB : B ≤ w.heap.size := by have := h.1; have := h.lt; omega
  have hm := most_le size
  refine (open_calls B g _ safe size gs (logE gs) w h hW (by rw [logE_all, List.length_map, List.length_append]; omega) (by rw [List.length_map, List.length_append]; omega)).mono fun e w' ⟨gb, v, safe', h1, h2, h3, h4, h5, h6, h7⟩ => ⟨gb, v, h1, ?_, h3, h6, h2.ge, Nat.le_of_lt (Nat.lt_of_le_of_lt h2.ge (blk_lt h2.blk))⟩
  have hSS : S → safe' = (((logF 0 gs).map Int.ofNat).length : Int) := fun hs => by
    obtain ⟨e1, e2⟩ := hSf hs
    rw [h7 (by rw [logE_all, List.length_map, e1, List.append_nil]), e2]
  rw [logE_all, ints_append, List.take_left' (by rw [List.length_map])] at h4
  exact ⟨⟨_, h4, hSS⟩, h2.lower hB, hg, (fun n hn => by cases hn), hb.trans h5, by simp; omega, hm.1, hm.2⟩

theorem add_bad (gb : Nat) (w : World) : Calls Try.prog 43 #[.pointer (some ⟨gb, 0, none⟩), .agg #[.int .i64 0, .int .u64 0]] w fun e w' => e = .returned (.int .i64 9) ∧ Below w.heap.size w w' := by
  have hf : Go.Proofs.Ythlllcmffgdcmaa.Reads.record_Record_Check.f 1 0 0 = some 9 := by decide
  have HC := Aside0.mk (fun w => Go.Proofs.Ythlllcmffgdcmaa.Reads.record_Record_Check.calls 1 _ _ 9 w hf)
  have hw0 := below_alloc (Below.refl w.heap.size w) (.cells #[.int .i64 0, .int .u64 0] 31)
  have hz0 := blk_new w (.cells #[.int .i64 0, .int .u64 0] 31)
  have y0 : (w.alloc (.cells #[.int .i64 0, .int .u64 0] 31)).cell? ⟨w.heap.size, 0, none⟩ = some (.int .i64 0) := (blk_cell hz0 0).trans rfl
  have y1 : (w.alloc (.cells #[.int .i64 0, .int .u64 0] 31)).cell? ⟨w.heap.size, 1, none⟩ = some (.int .u64 0) := (blk_cell hz0 1).trans rfl
  have HW := Aside0.mk hw0
  clear hf hw0 hz0
  go_enter Try.func43, Try.ntmps43
  go_wp2_with (go_at_call 23; (with_reducible refine (HC.out _).mono ?_); rintro e w1 ⟨rfl, hb⟩; have HB := Aside0.mk (below_then HW.out HW.out.size hb); clear hb)
  go_ret
  exact ⟨rfl, HB.out⟩

theorem aw_open (W : World) (h : Sto 1000 w0.heap.size W g [] 0) (hb : Below w0.heap.size w0 W) : Calls Try.prog 40 #[.pointer (some ⟨g, 0, none⟩), .int .i64 1] W fun e w' => ∃ gb A c, e = .returned (.tuple #[.pointer (some ⟨gb, 0, none⟩), .slice A 0 c, .int .i64 0]) ∧ Bo False 1000 w0.heap.size w0 w' gb g 1 (.slice none 0 0) [] [] :=
  (open_bo (rm := 1000) (gs := []) (w0 := w0) [] 0 1 h Good.nil (by simp) openL_none (by simp) (fun b hb => by cases hb) hb (S := False) (fun h => h.elim)).mono fun e w' ⟨gb, v, h1, h2, h3, _⟩ => by
    obtain ⟨A, c, rfl⟩ := h3.slice
    exact ⟨gb, A, c, h1, h2⟩
theorem aw_add (W : World) (h : Bo False 1000 w0.heap.size w0 W gb g 1 (.slice none 0 0) [] []) : Calls Try.prog 43 #[.pointer (some ⟨gb, 0, none⟩), .agg #[.int .i64 3, .int .u64 5]] W fun e w' => e = .returned (.int .i64 0) ∧ ∃ vw, Bk w0.heap.size w' gb g 1 1 vw [] 1 ∧ Below w0.heap.size w0 w' := by
  have h1 := add_bo 22 h (by decide) (by decide) (by decide) (by decide)
  have e1 : ((22 % 4 + 1 : Nat) : Int) = 3 := by decide
  have e2 : ((22 / 4 : Nat) : Int) = 5 := by decide
  have e3 : addG 1 [] [] 22 = [[22]] := by decide
  have e4 : addW 1 [] 22 = [] := by decide
  rw [e1, e2, e3, e4] at h1
  exact h1.mono fun e w' ⟨h1, vw, h2⟩ => ⟨h1, vw, h2.bo.bk, h2.bo.below⟩
theorem aw_wait (vw : Value) (W : World) (h : Bk B W gb g 1 1 vw [] 1) : Calls Try.prog 42 #[.pointer (some ⟨gb, 0, none⟩)] W fun e w' => e = .returned (.int .i64 0) ∧ W = w' := waiting_calls B gb g 1 1 vw [] 1 W h

set_option maxHeartbeats 1000000 in
set_option maxRecDepth 100000 in
theorem awake_calls (w : World) : Calls Try.prog 38 #[] w fun e w' => e = .returned (.bool true) ∧ Below w.heap.size w w' := by
  go_enter Try.func38, Try.ntmps38
  go_wp2_with (first
    | (go_at_call 39; (with_reducible refine (new_calls w.heap.size 1000 (by omega) w (Nat.le_refl _)).mono ?_); rintro e w1 ⟨g, rfl, hs, hb⟩; have HS1 := Aside0.mk (show Sto 1000 w.heap.size w1 g [] 0 from hs); have HB1 := Aside0.mk hb; clear hs hb)
    | (go_at_call 40; (with_reducible refine (aw_open w1 HS1.out HB1.out).mono ?_); rintro e w2 ⟨gb, A, c, rfl, hbo⟩; have HBO := Aside0.mk hbo; clear hbo)
    | (go_at_call 43; (with_reducible refine (aw_add w2 HBO.out).mono ?_); rintro e w3 ⟨rfl, vw3, hk, hb3⟩; have HK3 := Aside0.mk hk; have HB3 := Aside0.mk hb3; clear hk hb3)
    | (go_at_call 41; (with_reducible refine (sure_calls w.heap.size gb g 1 1 vw3 [] 1 w3 HK3.out).mono ?_); rintro e w' ⟨rfl, rfl⟩)
    | (go_at_call 42; (with_reducible refine (aw_wait vw3 w3 HK3.out).mono ?_); rintro e w' ⟨rfl, rfl⟩)
    | (go_at_call 43; (with_reducible refine (add_bad gb w3).mono ?_); rintro e w4 ⟨rfl, hb4⟩; have HB4 := Aside0.mk (below_then HB3.out HB3.out.size hb4); clear hb4))
  go_ret
  exact ⟨rfl, HB4.out⟩
end Go.Proofs.Ythlllcmffgdcmaa.Book

namespace Go.Proofs.Ythlllcmffgdcmaa.Book
open Go.RowKit Go.Proofs.YthlllcmffgdcmaaW.PrintWords Go.Proofs.YthlllcmffgdcmaaW.PrintLast Go.Proofs.YthlllcmffgdcmaaW.PrintMore Go.Proofs.Ythlllcmffgdcmaa.Stores Go.Proofs.Ythlllcmffgdcmaa.LebPlain Go.Proofs.Ythlllcmffgdcmaa.LebWords Go.Proofs.Ythlllcmffgdcmaa.RecPlain Go.Proofs.Ythlllcmffgdcmaa.SegPlain
open Go.Proofs.Ythlllcmffgdcmaa.PRecordReads (S31 k31 S36 k36 k36_mk k36_openM)
open Go.Proofs.Ythlllcmffgdcmaa.RecRecordReads (recP)
open Go.Proofs.Ythlllcmffgdcmaa.BookSome (recQ some_f told_f are_f)
set_option linter.unusedVariables false
set_option linter.unusedSimpArgs false

/-- A row of the document's decisions. -/
def OwnA (w : World) (B : Nat) (v : Value) (ns : List Nat) : Prop := w.ownsRow B 36 2 v ns.length (rcs ns)
theorem OwnA.slice {w : World} {B : Nat} {v : Value} {ns : List Nat} (h : OwnA w B v ns) : ∃ A c, v = .slice A ns.length c := own_slice h
theorem OwnA.below {w w' : World} {B : Nat} {v : Value} {ns : List Nat} (h : OwnA w B v ns) (hb : Below w.heap.size w w') : OwnA w' B v ns := pw_own_below h hb
theorem reps_rcsA : ∀ (ns : List Nat) (cs : List Value) {w : World} {B : Nat} {ok : Nat → Prop}, Reps (k36.M w B ok) 2 (ns.map recQ) cs → cs = rcs ns := by
  intro ns
  induction ns with
  | nil => intro cs w B ok h; exact List.eq_nil_of_length_eq_zero (by simpa using h.1)
  | cons n ns ih =>
    intro cs w B ok h
    have h0 := k36_openM (h.2 0 (recQ n) rfl)
    rw [Nat.zero_mul, List.drop_zero] at h0
    have ht := ih (cs.drop 2) (w := w) (B := B) (ok := ok) ⟨by have := h.1; simp at this; rw [List.length_drop, this, List.length_map]; omega, fun j p hj => by
      have := h.2 (j + 1) p hj
      rw [List.drop_drop, show 2 + j * 2 = (j + 1) * 2 by omega]
      exact this⟩
    rw [rcs_cons, ← ht, ← List.take_append_drop 2 cs, h0]
    rfl
theorem ownA_of_kd {w : World} {B : Nat} {ok : Nat → Prop} {v : Value} {ns : List Nat} (h : Kd.R k36 36 w B ok v (ns.map recQ)) : OwnA w B v ns := by
  obtain ⟨_, inner, ho, hr⟩ := h
  have e := reps_rcsA ns inner hr
  subst e
  rw [List.length_map] at ho
  exact ho
theorem OwnA.reads {w : World} {B : Nat} {v : Value} {ns : List Nat} (h : OwnA w B v ns) : ∃ A c, v = .slice A ns.length c ∧ ns.length ≤ c ∧ Kd.C k36 w A (ns.map recQ).length (ns.map recQ) := by
  obtain ⟨hl, h2⟩ := h
  rcases h2 with ⟨rfl, h0⟩ | ⟨gr, cap, cur, rfl, hb, hh, hc, hm, hs, ht⟩
  · have e : ns = [] := List.eq_nil_of_length_eq_zero h0
    subst e
    exact ⟨none, 0, rfl, Nat.le_refl _, rfl, by simp, fun h => by simp at h⟩
  · refine ⟨some ⟨gr, 0, none⟩, cap, rfl, hc, rfl, by rw [List.length_map]; unfold maxLen at hm; omega, fun _ => ⟨⟨gr, 0, none⟩, rfl, fun j p hj => ?_⟩⟩
    have hj' : j < ns.length := by
      rcases Nat.lt_or_ge j ns.length with h | h
      · exact h
      · rw [List.getElem?_eq_none (by rw [List.length_map]; exact h)] at hj; cases hj
    have ep : p = recQ ns[j] := by
      rw [List.getElem?_map, List.getElem?_eq_getElem hj'] at hj
      injection hj with hj
      exact hj.symm
    subst ep
    have key : ∀ i u, i < ns.length * 2 → (rcs ns)[i]? = some u → w.cell? ⟨gr, i, none⟩ = some u := fun i u hi hu => by
      rw [blk_cell hh i]
      rw [← ht, List.getElem?_take_of_lt hi, Array.getElem?_toList] at hu
      exact hu
    have hg := rcs_get ns j hj'
    refine ⟨_, rfl, k36_mk w _, fun i u hu => ?_⟩
    rw [add_plain]
    have hsz : k36.sz = 2 := rfl
    rw [hsz]
    match i, hu with
    | 0, hu => injection hu with hu; subst hu; exact key _ _ (by omega) hg.1
    | 1, hu => injection hu with hu; subst hu; exact key _ _ (by omega) hg.2
/-- What stands in a place of a row. -/
theorem Own.at_ {w : World} {B gr n c : Nat} {ns : List Nat} (h : Own w B (.slice (some ⟨gr, 0, none⟩) n c) ns) {i : Nat} (hi : i < ns.length) : w.cell? ⟨gr, i * 2, none⟩ = some (.int .i64 ((ns[i] % 4 + 1 : Nat) : Int)) ∧ w.cell? ⟨gr, i * 2 + 1, none⟩ = some (.int .u64 ((ns[i] / 4 : Nat) : Int)) := by
  obtain ⟨gr', c', e, hn⟩ := h.news (by omega)
  injection e with e _ _
  injection e with e
  injection e with e
  subst e
  have hg := rcs_get ns i hi
  have h1 := hn _ _ hg.1
  have h2 := hn _ _ hg.2
  rw [add_plain] at h1 h2
  exact ⟨h1, h2⟩

theorem some_calls (w : World) (A : Option Addr) (c : Nat) (l : List S36) (h : Kd.C k36 w A l.length l) (hc : l.length ≤ c) : Calls Try.prog 16 #[.slice A l.length c] w fun e w' =>
    ∃ v ms, e = .returned v ∧ Own w' w.heap.size v ms ∧ ms.length ≤ 40 ∧ (∀ n ∈ ms, n < 18446744073709551616) ∧ Below w.heap.size w w' := by
  obtain ⟨ms, h1, h2, h3⟩ := some_f l 50 (Nat.le_refl _)
  exact (Go.Proofs.Ythlllcmffgdcmaa.Some.shunterlaw02_Some.calls 50 A c l _ w h hc h1).mono fun e w' ⟨v, e1, e2, e3⟩ => ⟨v, ms, e1, own_of_kd e2, h2, h3, e3⟩
theorem told_calls (w : World) (B : Nat) (v : Value) (ns : List Nat) (h : Own w B v ns) (hl : ns.length ≤ 1000) : Calls Try.prog 21 #[v] w fun e w' => ∃ v', e = .returned v' ∧ OwnA w' w.heap.size v' ns ∧ Below w.heap.size w w' := by
  obtain ⟨A, c, rfl, hc, hk⟩ := h.reads
  have := Go.Proofs.Ythlllcmffgdcmaa.Some.shunterlaw02_Told.calls (ns.length + 1) A c (ns.map recP) _ w hk (by rw [List.length_map]; exact hc) (told_f ns (by omega) _ (by omega))
  rw [List.length_map] at this
  exact this.mono fun e w' ⟨v', e1, e2, e3⟩ => ⟨v', e1, ownA_of_kd e2, e3⟩
theorem are_calls (w : World) (B B' : Nat) (v v' : Value) (ns : List Nat) (h : Own w B v ns) (h' : OwnA w B' v' ns) (hl : ns.length ≤ 1000) : Calls Try.prog 20 #[v, v'] w fun e w' => e = .returned (.int .i64 0) ∧ Below w.heap.size w w' := by
  obtain ⟨A, c, rfl, hc, hk⟩ := h.reads
  obtain ⟨A', c', rfl, hc', hk'⟩ := h'.reads
  have := Go.Proofs.Ythlllcmffgdcmaa.Reads.shunterlaw02_Are.calls (ns.length + 1) A c (ns.map recP) A' c' (ns.map recQ) 0 w hk (by rw [List.length_map]; exact hc) hk' (by rw [List.length_map]; exact hc') (are_f ns (by omega) _ (by omega))
  rw [List.length_map, List.length_map] at this
  exact this.mono fun e w' ⟨h1, ⟨n, hw⟩⟩ => ⟨h1, by subst hw; exact pw_below_drewN (Below.refl _ _) n⟩

/-- Rows that a book's call leaves as they were. -/
theorem row_fr {w w' : World} {gb : Nat} {vw v : Value} {cs : Array Value} {B size n : Nat} {e : TypeId} {xs : List Value} (h : w.ownsRow B e size v n xs) (hf : Fr gb vw w w') (hgb : w.heap[gb]? = some (.cells cs 98 (0, 0))) (he : e ≠ 95 ∧ e ≠ 5 ∧ e ≠ 98) (hne : ∀ k, v.ownBlock = some k → vw.ownBlock ≠ some k) : w'.ownsRow B e size v n xs := by
  obtain ⟨h1, h2⟩ := h
  refine ⟨h1, ?_⟩
  rcases h2 with h2 | ⟨g, cap, cur, rfl, hb, hh, r⟩
  · exact .inl h2
  · exact .inr ⟨g, cap, cur, rfl, hb, hf g _ _ hh he.1 he.2.1 (blk_ne hh hgb he.2.2) (hne g rfl), r⟩
theorem ne_types {w : World} {B B' size size' n n' : Nat} {e e' : TypeId} {v v' : Value} {xs xs' : List Value} (h : w.ownsRow B e size v n xs) (h' : w.ownsRow B' e' size' v' n' xs') (hne : e ≠ e') : ∀ k, v.ownBlock = some k → v'.ownBlock ≠ some k := fun k hk hk' => by
  obtain ⟨c1, h1⟩ := own_typed h k hk
  obtain ⟨c2, h2⟩ := own_typed h' k hk'
  rw [h1] at h2
  injection h2 with h2
  injection h2 with _ h2
  exact hne h2
theorem OwnA.fr {w w' : World} {B B' gb : Nat} {vw va : Value} {cs : Array Value} {ns ws : List Nat} (h : OwnA w B va ns) (hf : Fr gb vw w w') (hgb : w.heap[gb]? = some (.cells cs 98 (0, 0))) (hw : Own w B' vw ws) : OwnA w' B va ns :=
  row_fr h hf hgb ⟨by decide, by decide, by decide⟩ (ne_types h hw (by decide))
/-- Two rows apart. -/
def Apart (v v' : Value) : Prop := ∀ k, v.ownBlock = some k → v'.ownBlock ≠ some k
theorem Apart.nil (v : Value) (n c : Nat) : Apart v (.slice none n c) := fun k _ h => by simp [Value.ownBlock] at h
theorem Own.fr {w w' : World} {B gb : Nat} {vw v : Value} {cs : Array Value} {ns : List Nat} (h : Own w B v ns) (hf : Fr gb vw w w') (hgb : w.heap[gb]? = some (.cells cs 98 (0, 0))) (ha : Apart v vw) : Own w' B v ns :=
  row_fr h hf hgb ⟨by decide, by decide, by decide⟩ ha
theorem Apart.moved {w : World} {B : Nat} {v vw vw' : Value} {ns : List Nat} (h : Apart v vw) (hv : Own w B v ns) (hm : Moved w vw vw') : Apart v vw' := fun k hk hk' => by
  rcases hm k hk' with h1 | h1
  · exact h k hk h1
  · have := own_lt hv k hk; omega
theorem OwnA.tm {w w' : World} {B : Nat} {v : Value} {ns : List Nat} (h : OwnA w B v ns) (ht : Tm w w') : OwnA w' B v ns := by
  obtain ⟨h1, h2⟩ := h
  refine ⟨h1, ?_⟩
  rcases h2 with h2 | ⟨g, cap, cur, rfl, hb, hh, r⟩
  · exact .inl h2
  · exact .inr ⟨g, cap, cur, rfl, hb, ht g _ _ hh (by decide) (by decide), r⟩
theorem info36 : (Try.prog.info? 36).map (fun i => (i.zero, i.size, i.bytes)) = some (some (.agg #[.int .i64 0, .int .u64 0]), 2, 16) := by kernel_rfl
theorem own_grown_other {w w' : World} {B B' size size' n n' : Nat} {e e' : TypeId} {v v' : Value} {xs xs' : List Value} (h : w.ownsRow B e size v n xs) (h' : w.ownsRow B' e' size' v' n' xs') (hne : e ≠ e') (hg : w.grownBy w' v'.ownBlock) : w'.ownsRow B e size v n xs := by
  obtain ⟨h1, h2⟩ := h
  refine ⟨h1, ?_⟩
  rcases h2 with h2 | ⟨g, cap, cur, rfl, hb, hh, r⟩
  · exact .inl h2
  · refine .inr ⟨g, cap, cur, rfl, hb, blk_grown hh hg (fun e1 => ?_), r⟩
    obtain ⟨c1, k1⟩ := own_typed h' g e1.symm
    rw [hh] at k1
    injection k1 with k1
    injection k1 with _ k1
    exact hne k1
/-- The document's row has grown: the book is as it was. -/
theorem Bo.grown {S : Prop} {rm : Int} {B B' : Nat} {w0 w w' : World} {gb g : Nat} {m : Int} {vw va : Value} {gs : List (List Nat)} {ws ns : List Nat} (h : Bo S rm B w0 w gb g m vw gs ws) (ha : OwnA w B' va ns) (hB : B ≤ B') (hg : w.grownBy w' va.ownBlock) : Bo S rm B w0 w' gb g m vw gs ws := by
  have hsz := h.bsz
  obtain ⟨safe, ⟨h1, v, h2, h3⟩, hsf⟩ := h.sto
  refine ⟨⟨safe, ⟨h1, v, blk_grown h2 hg (own_ne ha h2 (by decide)), own_grown_other h3 ha (by decide) hg⟩, hsf⟩, ⟨h.bk.ge, blk_grown h.bk.blk hg (own_ne ha h.bk.blk (by decide)), own_grown_other h.bk.row ha (by decide) hg⟩, h.good, h.codes, h.below.grown hg hsz (fun k hk => Nat.le_trans hB (own_base ha k hk)), h.room, h.m1, h.m400⟩
end Go.Proofs.Ythlllcmffgdcmaa.Book

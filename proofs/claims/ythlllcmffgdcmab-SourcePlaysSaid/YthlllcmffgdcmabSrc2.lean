import Derived.Test.YthlllcmffgdcmabSrc1
import Derived.Deep.QuietTactic
import Derived.BigQuiet
namespace Go.Proofs.Ythlllcmffgdcmab.Src
open Go.RowKit Go.Proofs.YthlllcmffgdcmabW.PrintWords Go.Proofs.YthlllcmffgdcmabW.PrintLast Go.Proofs.YthlllcmffgdcmabW.PrintMore
attribute [local go_sem] max2_int min2_int max_two min_two
set_option linter.unusedVariables false
set_option linter.unusedSimpArgs false

/-- An oracle: its numbers, how many were drawn. -/
structure Orc (B : Nat) (w : World) (o : Nat) (l : List Int) (k : Nat) (vl : Value) : Prop where
  ge : B ≤ o
  blk : w.heap[o]? = some (.cells #[vl, .int .i64 k] 141 (0, 0))
  row : w.ownsRow B 23 1 vl l.length (nums .u64 l)
/-- A source: where draws come from (functions K, L of the block o), what was drawn, who sees. -/
structure Srce (B : Nat) (w : World) (s K L o : Nat) (vt : Value) (nt : Nat) (rs : List Value) (see : Value) : Prop where
  ge : B ≤ s
  blk : w.heap[s]? = some (.cells #[.func (.func K) #[.pointer (some ⟨o, 0, none⟩)] #[], .func (.func L) #[.pointer (some ⟨o, 0, none⟩)] #[], vt, see] 144 (0, 0))
  row : w.ownsRow B 25 2 vt nt rs
/-- But one block all is as it was. -/
structure Touch (o : Nat) (w w' : World) : Prop where
  os : w'.os = w.os
  tape : w'.tape = w.tape
  output : w'.output = w.output
  size : w'.heap.size = w.heap.size
  block : ∀ i, i ≠ o → w'.heap[i]? = w.heap[i]?
theorem Touch.refl (o : Nat) (w : World) : Touch o w w := ⟨rfl, rfl, rfl, rfl, fun _ _ => rfl⟩
theorem Touch.drewN {o : Nat} {w w' : World} (h : Touch o w w') (n : Nat) : Touch o w (w'.drewN n) := ⟨h.os, h.tape, h.output, h.size, h.block⟩
theorem Touch.drew {o : Nat} {w w' : World} (h : Touch o w w') : Touch o w w'.drew := ⟨h.os, h.tape, h.output, h.size, h.block⟩
theorem Touch.set {o : Nat} {w w' : World} (h : Touch o w w') (i : Nat) (v : Value) : Touch o w (w'.setCell ⟨o, i, none⟩ v) :=
  ⟨h.os, h.tape, h.output, by simpa [World.setCell] using h.size, fun k hk => (Below.heap_setCell w' ⟨o, i, none⟩ v k hk).trans (h.block k hk)⟩
theorem Touch.below {o : Nat} {w w' : World} (h : Touch o w w') {B : Nat} (hB : B ≤ o) : Below B w w' := ⟨h.os, h.tape, h.output, Nat.le_of_eq h.size.symm, fun i hi => h.block i (by omega)⟩

theorem info23 : (Try.prog.info? 23).map (fun i => (i.zero, i.size, i.bytes)) = some (some (.int .u64 0), 1, 8) := by kernel_rfl

set_option maxHeartbeats 1000000 in
theorem oracle_calls (A : Option Addr) (c : Nat) (l : List Int) (w : World) (hr : ReadsInt w .u64 A l.length l) (hl : l.length * 8 ≤ 140737488355328) : Calls Try.prog 19 #[.slice A l.length c] w fun e w' =>
    ∃ s o vl, e = .returned (.pointer (some ⟨s, 0, none⟩)) ∧ Orc w.heap.size w' o l 0 vl ∧ Srce w.heap.size w' s 59 60 o (.slice none 0 0) 0 [] .nilFunc ∧ Below w.heap.size w w' := by
  have h1 := hmf
  have HR2 := Aside0.mk (hr.below (below_alloc (Below.refl w.heap.size w) (.cells #[] 23)))
  have HO2 := Aside0.mk (show (w.alloc (.cells #[] 23)).ownsRow w.heap.size 23 1 (.slice (some ⟨w.heap.size, 0, none⟩) 0 0) ([] : List Int).length (nums .u64 []) by simpa [nums] using own_lit w w.heap.size 23 .u64 [] (Nat.le_refl _) (by simp))
  have HL2 := Aside0.mk (below_alloc (Below.refl w.heap.size w) (.cells #[] 23))
  have HL := Aside0.mk hl
  clear hr hl
  go_enter Try.func19, Try.ntmps19
  go_wp2_with (first | (at_builtin; refine print_append_row (w0 := w) w.heap.size rfl _ _ 31 23 .u64 8 rfl Try.underlying31 info23 (by decide) _ [] l A _ _ rfl rfl HO2.out HR2.out HL2.out (by simp) (by have := HL.out; simp; omega) ?_; intro v1 w1 hown hbel hgr hat; rw [List.nil_append] at hown; have HO3 := Aside0.mk hown; have HL3 := Aside0.mk hbel; clear hbel hgr hat; obtain ⟨A3, c3, rfl⟩ := own_slice hown; clear hown))
  go_ret
  refine ⟨w1.heap.size + 1, w1.heap.size, .slice A3 l.length c3, rfl, ⟨HL3.out.size, blk_alloc (blk_new w1 _) _, (HO3.out.alloc _).alloc _⟩, ⟨Nat.le_trans HL3.out.size (by omega), ?_, own_nil _ _ _ _⟩, below_alloc (below_alloc HL3.out _) _⟩
  have := blk_new (w1.alloc (.cells #[.slice A3 l.length c3, .int .i64 0] 141)) (.cells #[.func (.func 59) #[.pointer (some ⟨w1.heap.size, 0, none⟩)] #[], .func (.func 60) #[.pointer (some ⟨w1.heap.size, 0, none⟩)] #[], .slice none 0 0, .nilFunc] 144)
  rw [show (w1.alloc (.cells #[.slice A3 l.length c3, .int .i64 0] 141)).heap.size = w1.heap.size + 1 by simp] at this
  exact this

set_option maxHeartbeats 1000000 in
theorem rest_calls (B o : Nat) (l : List Int) (k : Nat) (vl : Value) (w : World) (h : Orc B w o l k vl) (hk : k ≤ l.length) : Calls Try.prog 60 #[.pointer (some ⟨o, 0, none⟩)] w fun e w' =>
    e = .returned (.int .i64 ((l.length : Int) - k)) ∧ ∃ n, w' = w.drewN n := by
  obtain ⟨hg, hb, ho⟩ := h
  have hm := ho
  obtain ⟨A1, c1, rfl, hle, hrd⟩ := own_reads_of_le (enc := Value.int .u64) (d := (0 : Int)) ho
  have hmx := hrd.2.1
  have k0 : w.cell? ⟨o, 0, none⟩ = some (.slice A1 l.length c1) := (blk_cell hb 0).trans rfl
  have k1 : w.cell? ⟨o, 1, none⟩ = some (.int .i64 k) := (blk_cell hb 1).trans rfl
  have e1 : IntKind.i64.wrap ((l.length : Int) - k) = (l.length : Int) - k := by rw [IntKind.wrap_i64]; omega
  clear hb ho hm hrd
  go_enter Try.func60, Try.ntmps60
  go_wp2
  go_quiet (fail)
  go_wp2
  go_ret
  exact ⟨rfl, nq, rfl⟩

theorem Orc.next {B : Nat} {w : World} {o : Nat} {l : List Int} {k : Nat} {vl : Value} (h : Orc B w o l k vl) (n : Nat) : Orc B ((w.drewN n).setCell ⟨o, 1, .none⟩ (.int .i64 ((k : Int) + 1))) o l (k + 1) vl := by
  have hb : (w.drewN n).heap[o]? = _ := h.blk
  refine ⟨h.ge, by simpa using blk_set hb 1 (.int .i64 ((k : Int) + 1)), own_setCell (show (w.drewN n).ownsRow B 23 1 vl l.length (nums .u64 l) from h.row) (own_ne h.row h.blk (by decide)) _⟩
theorem Orc.at_ {B : Nat} {w : World} {o : Nat} {l : List Int} {k : Nat} {vl : Value} (h : Orc B w o l k vl) (j : Nat) (hj : j < l.length) (ad : Addr) (c : Nat) (hv : vl = .slice (some ad) l.length c) : w.cell? (ad.add j) = some (.int .u64 (rd l (j : Int))) := by
  obtain ⟨A1, c1, e, hle, hrd⟩ := own_reads_of_le (enc := Value.int .u64) (d := (0 : Int)) h.row
  obtain ⟨ad1, e1, kx⟩ := hrd.at_ (j : Int) (by omega) (by omega)
  rw [hv] at e
  injection e with e _ _
  rw [e1] at e
  injection e with e
  rw [e]
  rwa [Int.toNat_natCast] at kx

theorem callFunc60 (caps : Array Value) (W : World) : (callFunc 60 caps).run Try.prog W = .ok (.enter 60 caps) W := by kernel_rfl
theorem callFunc59 (caps : Array Value) (W : World) : (callFunc 59 caps).run Try.prog W = .ok (.enter 59 caps) W := by kernel_rfl

set_option maxHeartbeats 1000000 in
theorem left_calls (B s L o K : Nat) (vt : Value) (nt : Nat) (rs : List Value) (see : Value) (m : Int) (w : World) (h : Srce B w s K L o vt nt rs see) (hL : ∀ caps W, (callFunc L caps).run Try.prog W = .ok (.enter L caps) W)
    (hrun : Calls Try.prog L #[.pointer (some ⟨o, 0, none⟩)] w fun e w' => e = .returned (.int .i64 m) ∧ ∃ n, w' = w.drewN n) : Calls Try.prog 22 #[.pointer (some ⟨s, 0, none⟩)] w fun e w' =>
    e = .returned (.int .i64 m) ∧ ∃ n, w' = w.drewN n := by
  have k1 : w.cell? ⟨s, 1, none⟩ = some (.func (.func L) #[.pointer (some ⟨o, 0, none⟩)] #[]) := (blk_cell h.blk 1).trans rfl
  have HR := Aside0.mk hrun
  clear h hrun
  go_enter Try.func22, Try.ntmps22
  go_wp2
  refine HR.out.mono ?_
  rintro e w1 ⟨rfl, n, hw⟩
  have HW := Aside0.mk hw
  clear hw
  go_wp2
  go_ret
  exact ⟨rfl, n, HW.out⟩

set_option maxHeartbeats 1000000 in
theorem odraw_ok (B o : Nat) (l : List Int) (k : Nat) (vl : Value) (kind n : Int) (w : World) (h : Orc B w o l k vl) (hk : k < l.length) (hn : 1 ≤ n) (hn2 : n ≤ 9223372036854775807) (hx : 0 ≤ rd l k) : Calls Try.prog 59 #[.pointer (some ⟨o, 0, none⟩), .int .i64 kind, .int .i64 n] w fun e w' =>
    e = .returned (.int .u64 (rd l k % n)) ∧ Touch o w w' ∧ Orc B w' o l (k + 1) vl := by
  have H := Aside0.mk h
  obtain ⟨hg, hb, ho⟩ := h
  obtain ⟨A1, c1, rfl, hle, hrd⟩ := own_reads_of_le (enc := Value.int .u64) (d := (0 : Int)) ho
  have hmx := hrd.2.1
  obtain ⟨ad, rfl, kx⟩ := hrd.at_ (k : Int) (by omega) (by omega)
  rw [Int.toNat_natCast] at kx
  have kx' : w.cell? (ad.add k) = some (.int .u64 (rd l k)) := kx
  have k0 : w.cell? ⟨o, 0, none⟩ = some (.slice (some ad) l.length c1) := (blk_cell hb 0).trans rfl
  have k1 : w.cell? ⟨o, 1, none⟩ = some (.int .i64 k) := (blk_cell hb 1).trans rfl
  have f1 := blk_frozen hb 1
  have e1 : IntKind.i64.wrap ((k : Int) + 1 - 1) = (k : Int) := by rw [IntKind.wrap_i64]; omega
  have e2 : IntKind.i64.wrap (k : Int) = (k : Int) := by clear e1; rw [IntKind.wrap_i64]; omega
  have q1 : decide ((l.length : Int) ≤ (k : Int)) = false := decide_eq_false (by omega)
  have b0 : (k : Int) < (l.length : Int) := by omega
  have b1 : (0 : Int) ≤ (k : Int) := by omega
  obtain ⟨x, hxe⟩ : ∃ x, rd l (k : Int) = x := ⟨_, rfl⟩
  have HX := Aside0.mk hxe
  rw [hxe] at kx' hx ⊢
  have HK := Aside0.mk hk
  clear hb ho hrd kx hk hxe
  go_enter Try.func59, Try.ntmps59
  go_wp2
  go_quiet (fail)
  go_wp2
  have HO2 := Aside0.mk (show Orc B ((w.drewN nq).setCell ⟨o, 1, none⟩ (.int .i64 ((k : Int) + 1))) o l (k + 1) (.slice (some ad) l.length c1) from H.out.next nq)
  have HT := Aside0.mk (((Touch.refl o w).drewN nq).set 1 (.int .i64 ((k : Int) + 1)))
  generalize ((w.drewN nq).setCell ⟨o, 1, none⟩ (.int .i64 ((k : Int) + 1))) = w2 at HO2 HT ⊢
  clear k0 k1 f1 kx'
  have k0 : w2.cell? ⟨o, 0, none⟩ = some (.slice (some ad) l.length c1) := (blk_cell HO2.out.blk 0).trans rfl
  have k1 : w2.cell? ⟨o, 1, none⟩ = some (.int .i64 ((k : Int) + 1)) := (blk_cell HO2.out.blk 1).trans rfl
  have kx2 := HO2.out.at_ k HK.out ad c1 rfl
  rw [HX.out] at kx2
  go_quiet (fail)
  go_wp2
  go_ret
  exact ⟨rfl, HT.out.drewN _, ⟨HO2.out.ge, HO2.out.blk, HO2.out.row⟩⟩
end Go.Proofs.Ythlllcmffgdcmab.Src

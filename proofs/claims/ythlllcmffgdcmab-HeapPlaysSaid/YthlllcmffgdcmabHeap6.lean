import Derived.Test.YthlllcmffgdcmabHeap5
import Derived.Deep.RegionLaw
namespace Go.Proofs.Ythlllcmffgdcmab.Heap
open Go.RowKit Go.Proofs.YthlllcmffgdcmabW.PrintWords Go.Proofs.YthlllcmffgdcmabW.PrintLast Go.Proofs.YthlllcmffgdcmabW.PrintMore Go.Proofs.Ythlllcmffgdcmab.HeapPlain
set_option linter.unusedVariables false
set_option linter.unusedSimpArgs false

theorem info88 : (Try.prog.info? 88).map (fun i => (i.zero, i.size, i.bytes)) = some (some (.agg zI), 3, 24) := by kernel_rfl
theorem IsHeap.seq {B : Nat} {w : World} {p : Nat} {v : Value} {l : List It} {sq : Int} (h : IsHeap B w p v l sq) (sq' : Int) : IsHeap B (w.setCell ⟨p, 1, none⟩ (.int .u64 sq')) p v l sq' :=
  ⟨h.ge, by simpa using blk_set h.blk 1 (.int .u64 sq'), own_setCell h.row (p := ⟨p, 1, none⟩) (own_ne h.row h.blk (by decide)) _⟩
theorem Step.seq {B p : Nat} {a b : World} {v v' : Value} (h : Step B p v v' a b) (hp : B ≤ p) (sq' : Int) : Step B p v v' a (b.setCell ⟨p, 1, none⟩ (.int .u64 sq')) :=
  ⟨h.below.setCell hp _, h.kept.setCell (p := ⟨p, 1, none⟩) (.inl (.inl rfl)) _, h.moved⟩
theorem own_of_form {v : Value} {gr n cap : Nat} : (Value.slice (some ⟨gr, 0, none⟩) n cap).ownBlock = some gr := rfl

set_option maxHeartbeats 4000000 in
set_option maxRecDepth 100000 in
theorem push_calls (B p : Nat) (v : Value) (l : List It) (sq t id : Int) (w : World) (h : IsHeap B w p v l sq) (hl : l.length ≤ 900) (hs0 : 0 ≤ sq) (hs1 : sq ≤ 1000000) : Calls Try.prog 40 #[.pointer (some ⟨p, 0, none⟩), .int .u64 t, .int .i64 id] w fun e w' =>
    e = .returned (.int .u64 sq) ∧ ∃ v', IsHeap B w' p v' (psh l ⟨t, sq, id⟩) (sq + 1) ∧ Step B p v v' w w' := by
  have H := Aside0.mk h
  obtain ⟨A, c, rfl⟩ := own_slice h.row
  have k0 : w.cell? ⟨p, 0, none⟩ = some (.slice A l.length c) := (blk_cell h.blk 0).trans rfl
  have k1 : w.cell? ⟨p, 1, none⟩ = some (.int .u64 sq) := (blk_cell h.blk 1).trans rfl
  have HL := Aside0.mk hl
  have kA := Src.some_alloc k0 (.cells #[.int .u64 t, .int .u64 sq, .int .i64 id] 88)
  have kB := Src.some_alloc k1 (.cells #[.int .u64 t, .int .u64 sq, .int .i64 id] 88)
  obtain ⟨j0, hj0, hz0, hz1, hz2⟩ := info_parts info88
  have HJ := Aside0.mk (And.intro hj0 (And.intro hz0 (And.intro hz1 hz2)))
  clear h hl hj0 hz0 hz1 hz2
  go_enter Try.func40, Try.ntmps40
  go_wp2
  go_region_law ((refine step_append_lies _ (by rfl) (.tmp 11) (.tmp 19) 81 (by rfl) B 88 j0 _ 3 24 Try.underlying81 HJ.out.1 HJ.out.2.1 HJ.out.2.2.1 HJ.out.2.2.2 rfl (by omega) _ l.length (cs3 l) (by simp [Act.eval, Act.put]) (H.out.row.alloc _) ⟨w.heap.size, 0, none⟩ 1 1 [.int .u64 t, .int .u64 sq, .int .i64 id] (by simp [Act.eval, Act.put]) (by rfl) (World.news_of_block (cs := #[.int .u64 t, .int .u64 sq, .int .i64 id]) (t := 88) (fr := (0, 0)) (heap_alloc_new w _)) (by simp [Value.oneCell']) (by omega) (by have := HL.out; unfold maxLen; omega) (by have := HL.out; omega) (by have := H.out.bsz; simp; omega) (w.heap.size + 1) (by simp) ?_; intro gg cap w3 hown1 hgrow hat hlt; have HB3 := Aside0.mk (blk_grown (blk_drew (blk_alloc H.out.blk (.cells #[.int .u64 t, .int .u64 sq, .int .i64 id] 88))) hgrow (own_ne H.out.row H.out.blk (by decide))); have d4 := (blk_cell HB3.out 0).trans rfl; have f4 := blk_frozen HB3.out 0; have HO3 := Aside0.mk hown1; have HG3 := Aside0.mk hgrow; have HA3 := Aside0.mk hat; clear hown1 hgrow hat hlt))
  all_goals
    have HO3' := Aside0.mk (show Row w3 B (.slice (some ⟨gg, 0, none⟩) (l.length + 1) cap) (l ++ [⟨t, sq, id⟩]) by
      have := HO3.out
      unfold Row
      rw [List.length_append, cs3_append]
      exact this)
    have H4 := Aside0.mk (IsHeap.mk H.out.ge (by simpa using blk_set HB3.out 0 (.slice (some ⟨gg, 0, none⟩) (l.length + 1) cap)) (own_setCell HO3'.out (p := ⟨p, 0, none⟩) (own_ne HO3'.out HB3.out (by decide)) (.slice (some ⟨gg, 0, none⟩) (l.length + 1) cap)))
    have HS4 := Aside0.mk (show Step B p (.slice A l.length c) (.slice (some ⟨gg, 0, none⟩) (l.length + 1) cap) w (w3.setCell ⟨p, 0, none⟩ (.slice (some ⟨gg, 0, none⟩) (l.length + 1) cap)) from
      ⟨((((Below.refl B w).alloc H.out.bsz (.cells #[.int .u64 t, .int .u64 sq, .int .i64 id] 88)).drew).grown HG3.out (by have := H.out.bsz; simp; omega) (own_base H.out.row)).setCell H.out.ge _,
       (Kept.of_grown HG3.out (((Kept.refl w (fun k => k = p ∨ (Value.slice A l.length c).ownBlock = some k)).alloc (.cells #[.int .u64 t, .int .u64 sq, .int .i64 id] 88)).drew) (fun k hk => .inl (.inr hk))).setCell (p := ⟨p, 0, none⟩) (.inl (.inl rfl)) _,
       fun k hk => by
        have hk2 : gg = k := by injection hk
        subst hk2
        rcases HA3.out with h | h
        · exact .inl h
        · exact .inr (by omega)⟩)
    clear k0 k1 kA kB d4 f4
    generalize w3.setCell ⟨p, 0, none⟩ (.slice (some ⟨gg, 0, none⟩) (l.length + 1) cap) = w4 at H4 HS4 ⊢
    have k0 : w4.cell? ⟨p, 0, none⟩ = some (.slice (some ⟨gg, 0, none⟩) (l.length + 1) cap) := (blk_cell H4.out.blk 0).trans rfl
    have k1 : w4.cell? ⟨p, 1, none⟩ = some (.int .u64 sq) := (blk_cell H4.out.blk 1).trans rfl
    have f1 := blk_frozen H4.out.blk 1
    have hl9 : l.length ≤ 900 := HL.out
    go_upto_region 3 with (fail)
    have H5 := Aside0.mk (H4.out.seq (sq + 1))
    have HS5 := Aside0.mk (HS4.out.seq H.out.ge (sq + 1))
    clear k0 k1 f1
    generalize w4.setCell ⟨p, 1, none⟩ (.int .u64 (sq + 1)) = w5 at H5 HS5 ⊢
    have k0 : w5.cell? ⟨p, 0, none⟩ = some (.slice (some ⟨gg, 0, none⟩) (l.length + 1) cap) := (blk_cell H5.out.blk 0).trans rfl
    go_wp2_with (go_at_call 68; (with_reducible refine (up_calls B p _ (l ++ [⟨t, sq, id⟩]) (sq + 1) l.length w5 H5.out (by simp) (by simp; have := HL.out; omega)).mono ?_); rintro e w6 ⟨rfl, hR6, hL6, hS6⟩; have H6 := Aside0.mk hR6; have HS6 := Aside0.mk (HS5.out.trans hS6 H.out.plt); have k1 : w6.cell? ⟨p, 1, none⟩ = some (.int .u64 (sq + 1)) := (blk_cell hR6.blk 1).trans rfl; clear hR6 hL6 hS6 k0)
    go_ret
    exact ⟨rfl, _, H6.out, HS6.out⟩
end Go.Proofs.Ythlllcmffgdcmab.Heap

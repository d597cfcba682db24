/- A draw that is seen: the source's watcher, and what it keeps. -/
import Derived.Test.YthlllcmffgdcmabSrc20
import Derived.WalkLawsBesides
import Derived.StillTailTactics
import Derived.Deep.RegionLaw
import Derived.Deep.AppendLies
namespace Go.Proofs.Ythlllcmffgdcmab.Src
open Go.RowKit Go.Proofs.YthlllcmffgdcmabW.PrintWords Go.Proofs.YthlllcmffgdcmabW.PrintLast Go.Proofs.YthlllcmffgdcmabW.PrintMore
attribute [local go_sem] max2_int min2_int max_two min_two
set_option linter.unusedVariables false
set_option linter.unusedSimpArgs false

/-- What a watcher keeps: in a variable (block z), a row. -/
structure Seen (B : Nat) (w : World) (z : Nat) (vn : Value) (S : List (Int × Int)) : Prop where
  ge : B ≤ z
  blk : w.heap[z]? = some (.cells #[vn] 45 (0, 0))
  row : w.ownsRow B 25 2 vn S.length (recs S)
theorem Seen.below {B : Nat} {w w' : World} {z : Nat} {vn : Value} {S : List (Int × Int)} (h : Seen B w z vn S) (hb : Below w.heap.size w w') : Seen B w' z vn S := ⟨h.ge, blk_below h.blk hb, pw_own_below h.row hb⟩
/-- The watcher. -/
def seeV (z : Nat) : Value := .func (.func 28) #[] #[.pointer (some ⟨z, 0, none⟩)]
theorem callFunc28 (caps : Array Value) (W : World) : (callFunc 28 caps).run Try.prog W = .ok (.enter 28 caps) W := by kernel_rfl
theorem neq_see (z : Nat) (w : World) : (binOp .neq 53 (seeV z) .nilFunc).run Try.prog w = .ok (.bool true) w := by kernel_rfl

theorem run_store_fn {P : Program} {a : Addr} {m : Mode} {w : World} (fn : Fn) (first captured : Array Value) : (store a (.func fn first captured) m).run P w = stored P w a (.func fn first captured) m := run_store P w a _ m rfl
attribute [local go_sem] run_store_fn
set_option maxHeartbeats 1000000 in
theorem watch_calls (B s K L o : Nat) (vt : Value) (nt : Nat) (rs : List Value) (z : Nat) (w : World) (h : Srce B w s K L o vt nt rs .nilFunc) : Calls Try.prog 27 #[.pointer (some ⟨s, 0, none⟩), seeV z] w fun e w' =>
    e = .returned (.tuple #[]) ∧ Srce B w' s K L o vt nt rs (seeV z) ∧ Kept w w' (fun k => k = s) ∧ Below B w w' := by
  have H := Aside0.mk h
  have k0 : w.cell? ⟨s, 3, none⟩ = some .nilFunc := (blk_cell h.blk 3).trans rfl
  have f0 := blk_frozen h.blk 3
  unfold seeV
  have HF := Aside0.mk (show Srce B (w.setCell ⟨s, 3, none⟩ (.func (.func 28) #[] #[.pointer (some ⟨z, 0, none⟩)])) s K L o vt nt rs (.func (.func 28) #[] #[.pointer (some ⟨z, 0, none⟩)]) from
    ⟨h.ge, by simpa using blk_set h.blk 3 (.func (.func 28) #[] #[.pointer (some ⟨z, 0, none⟩)]), own_setCell h.row (own_ne h.row h.blk (by decide)) _⟩)
  have HK := Aside0.mk ((Kept.refl w (fun k => k = s)).setCell (p := ⟨s, 3, none⟩) (.inl rfl) (.func (.func 28) #[] #[.pointer (some ⟨z, 0, none⟩)]))
  have HB := Aside0.mk (show Below B w (w.setCell ⟨s, 3, none⟩ (.func (.func 28) #[] #[.pointer (some ⟨z, 0, none⟩)])) from (Below.refl B w).setCell h.ge _)
  clear h
  go_enter Try.func27, Try.ntmps27
  go_wp2
  exact bodyPost_end (results_none rfl _ _ _) rfl ⟨rfl, HF.out, HK.out, HB.out⟩

set_option maxHeartbeats 2000000 in
theorem see_calls (B z : Nat) (vn : Value) (S : List (Int × Int)) (kind v : Int) (w : World) (h : Seen B w z vn S) (hB : B ≤ w.heap.size) (hS : S.length ≤ 1000) : Calls Try.prog 28 #[.agg #[.int .i64 kind, .int .u64 v], .pointer (some ⟨z, 0, none⟩)] w fun e w' =>
    e = .returned (.tuple #[]) ∧ ∃ vn', Seen B w' z vn' (S ++ [(kind, v)]) ∧ Kept w w' (fun k => k = z ∨ vn.ownBlock = some k) ∧ (∀ k, vn'.ownBlock = some k → vn.ownBlock = some k ∨ w.heap.size ≤ k) ∧ Below B w w' := by
  have H := Aside0.mk h
  obtain ⟨A, c, rfl⟩ := own_slice h.row
  have hb1 := below_alloc (Below.refl w.heap.size w) (.cells #[.int .i64 kind, .int .u64 v] 25)
  have H1 := Aside0.mk (h.below hb1)
  have k0 : (w.alloc (.cells #[.int .i64 kind, .int .u64 v] 25)).cell? ⟨z, 0, none⟩ = some (.slice A S.length c) := (blk_cell H1.out.blk 0).trans rfl
  have HZ := Aside0.mk (blk_new w (.cells #[.int .i64 kind, .int .u64 v] 25))
  have HK1 := Aside0.mk ((Kept.refl w (fun k => k = z ∨ (Value.slice A S.length c).ownBlock = some k)).alloc (.cells #[.int .i64 kind, .int .u64 v] 25))
  have HL1 := Aside0.mk ((Below.refl B w).alloc hB (.cells #[.int .i64 kind, .int .u64 v] 25))
  have HSZ := Aside0.mk (show w.heap.size ≤ (w.alloc (.cells #[.int .i64 kind, .int .u64 v] 25)).heap.size from hb1.size)
  have HSS := Aside0.mk hS
  have HBB := Aside0.mk hB
  obtain ⟨j0, hj0, hz0, hz1, hz2⟩ := info_parts info25
  have HJ := Aside0.mk (And.intro hj0 (And.intro hz0 (And.intro hz1 hz2)))
  clear h hb1 hj0 hz0 hz1 hz2
  go_enter Try.func28, Try.ntmps28
  go_upto_region 1 with (fail)
  change Code.wp _ _ _ _ (w.alloc (.cells #[.int .i64 kind, .int .u64 v] 25))
  generalize hzz : w.heap.size = zr at HZ ⊢
  have HZR := Aside0.mk hzz
  clear hzz
  generalize w.alloc (.cells #[.int .i64 kind, .int .u64 v] 25) = w1 at H1 k0 HZ HK1 HL1 HSZ ⊢
  have z0 : w1.cell? ⟨zr, 0, none⟩ = some (.int .i64 kind) := (blk_cell HZ.out 0).trans rfl
  have z1 : w1.cell? ⟨zr, 1, none⟩ = some (.int .u64 v) := (blk_cell HZ.out 1).trans rfl
  go_wp2_with (at_builtin; refine wpList_append_lies _ (by rfl) _ _ 45 (by rfl) B 25 j0 _ 2 16 Try.underlying45 HJ.out.1 HJ.out.2.1 HJ.out.2.2.1 HJ.out.2.2.2 rfl (by omega) (.slice A S.length c) S.length (recs S) (by rfl) (H1.out.row.alloc _) ⟨w1.heap.size, 0, none⟩ 1 1 [.int .i64 kind, .int .u64 v] (by rfl) (by rfl) (World.news_of_block (cs := #[.int .i64 kind, .int .u64 v]) (t := 25) (fr := (0, 0)) (heap_alloc_new w1 _)) (by simp [Value.oneCell']) (by omega) (by have := HSS.out; unfold maxLen; omega) (by have := HSS.out; omega) (by have h1 := HBB.out; have h2 := HSZ.out; have h3 := HZR.out; simp; omega) (w1.heap.size + 1) (by simp) ?_; intro gg cap w2 hown hgrow hat hlt; have HO2 := Aside0.mk (show w2.ownsRow B 25 2 (.slice (some ⟨gg, 0, none⟩) (S.length + 1) cap) (S.length + 1) (recs (S ++ [(kind, v)])) from by rw [recs_append]; exact hown); have HB2 := Aside0.mk (blk_grown (blk_alloc H1.out.blk (.cells #[.int .i64 kind, .int .u64 v] 25)) hgrow (own_ne (H1.out.row.alloc _) (blk_alloc H1.out.blk (.cells #[.int .i64 kind, .int .u64 v] 25)) (by decide))); have HK2 := Aside0.mk (Kept.of_grown hgrow (HK1.out.alloc (.cells #[.int .i64 kind, .int .u64 v] 25)) (fun k hk => .inl (.inr hk))); have HL2 := Aside0.mk ((HL1.out.alloc (by have h1 := HBB.out; have h2 := HSZ.out; omega) (.cells #[.int .i64 kind, .int .u64 v] 25)).grown hgrow (by have h1 := HBB.out; have h2 := HSZ.out; simp; omega) (own_base H1.out.row)); have HAT := Aside0.mk hat; have d4 : w2.cell? ⟨z, 0, none⟩ = some (.slice A S.length c) := (blk_cell HB2.out 0).trans rfl; have f4 := blk_frozen HB2.out 0; clear hown hgrow hat hlt)
  refine bodyPost_end (results_none rfl _ _ _) rfl ⟨rfl, .slice (some ⟨gg, 0, none⟩) (S.length + 1) cap, ⟨H.out.ge, ?_, ?_⟩, HK2.out.setCell (.inl (.inl rfl)) _, at_of HAT.out (by have := HSZ.out; have := HZR.out; omega), HL2.out.setCell H.out.ge _⟩
  · simpa using blk_set HB2.out 0 (.slice (some ⟨gg, 0, none⟩) (S.length + 1) cap)
  · rw [List.length_append, List.length_singleton]
    exact own_setCell HO2.out (own_ne HO2.out HB2.out (by decide)) _
set_option maxHeartbeats 2000000 in
set_option maxRecDepth 100000 in
theorem draw_see (B s K L o : Nat) (vt : Value) (nt : Nat) (rs : List Value) (zs : Nat) (vn : Value) (S : List (Int × Int)) (kind n m v : Int) (w : World) (R : World → Prop) (h : Srce B w s K L o vt nt rs (seeV zs)) (hsn : Seen B w zs vn S) (hso : s ≠ o) (hvo : vt.ownBlock ≠ some o) (hzo : zs ≠ o) (hno : vn.ownBlock ≠ some o) (hnv : ∀ k, vn.ownBlock = some k → vt.ownBlock ≠ some k) (hK : ∀ caps W, (callFunc K caps).run Try.prog W = .ok (.enter K caps) W)
    (hm : (if n < 1 then 1 else n) = m) (hv0 : 0 ≤ v) (hv : v ≤ 9223372036854775807) (hnt : nt ≤ 1000) (hSl : S.length ≤ 1000) (hB : B ≤ w.heap.size)
    (hrun : Calls Try.prog K #[.pointer (some ⟨o, 0, none⟩), .int .i64 kind, .int .i64 m] w fun e w' => e = .returned (.int .u64 v) ∧ Reach o w w' ∧ R w') : Calls Try.prog 62 #[.pointer (some ⟨s, 0, none⟩), .int .i64 kind, .int .i64 n] w fun e w' =>
    e = .returned (.int .i64 v) ∧ ∃ w1 vt' vn', Reach o w w1 ∧ R w1 ∧ Srce B w' s K L o vt' (nt + 1) (rs ++ [.int .i64 kind, .int .u64 v]) (seeV zs) ∧ Seen B w' zs vn' (S ++ [(kind, v)]) ∧ Kept w1 w' (fun k => k = s ∨ vt.ownBlock = some k ∨ k = zs ∨ vn.ownBlock = some k) ∧ (∀ k, vt'.ownBlock = some k → vt.ownBlock = some k ∨ w1.heap.size ≤ k) ∧ (∀ k, vn'.ownBlock = some k → vn.ownBlock = some k ∨ w1.heap.size ≤ k) ∧ (∀ k, vn'.ownBlock = some k → vt'.ownBlock ≠ some k) ∧ Below B w1 w' := by
  have HSN := Aside0.mk hsn
  have HSL := Aside0.mk hSl
  have HZO := Aside0.mk (And.intro hzo (And.intro hno hnv))
  clear hsn hSl hzo hno hnv
  have H := Aside0.mk h
  have HR := Aside0.mk hrun
  have k0 : w.cell? ⟨s, 0, none⟩ = some (.func (.func K) #[.pointer (some ⟨o, 0, none⟩)] #[]) := (blk_cell h.blk 0).trans rfl
  have HS := Aside0.mk (And.intro hso (And.intro hvo hB))
  have HNT := Aside0.mk hnt
  clear h hrun hso hvo
  go_enter Try.func62, Try.ntmps62
  go_wp2
  refine HR.out.mono ?_
  rintro e w1 ⟨rfl, ht, hR⟩
  have HT := Aside0.mk ht
  have H1 := Aside0.mk hR
  clear ht hR
  go_wp2
  have h1b : Reach o w w1 := HT.out
  have hb1 : w1.heap[s]? = some (.cells #[.func (.func K) #[.pointer (some ⟨o, 0, none⟩)] #[], .func (.func L) #[.pointer (some ⟨o, 0, none⟩)] #[], vt, .func (.func 28) #[] #[.pointer (some ⟨zs, 0, none⟩)]] 144 (0, 0)) := (HT.out.block s HS.out.1 (blk_lt H.out.blk)).trans H.out.blk
  have hrow1 : w1.ownsRow B 25 2 vt nt rs := own_reach H.out.row HT.out HS.out.2.1
  have HB2 := Aside0.mk (blk_alloc hb1 (.cells #[.int .i64 kind, .int .u64 v] 25))
  have HO2 := Aside0.mk (hrow1.alloc (.cells #[.int .i64 kind, .int .u64 v] 25))
  have HR2 := Aside0.mk (blk_new w1 (.cells #[.int .i64 kind, .int .u64 v] 25))
  have HB1 := Aside0.mk hb1
  have HO1 := Aside0.mk hrow1
  have HL2 := Aside0.mk ((Below.refl B w1).alloc (Nat.le_trans hB HT.out.size) (.cells #[.int .i64 kind, .int .u64 v] 25))
  have HW2 := Aside0.mk (show w1.heap.size ≤ (w1.alloc (.cells #[.int .i64 kind, .int .u64 v] 25)).heap.size by simp)
  have HK2 := Aside0.mk ((Kept.refl w1 (fun k => k = s ∨ vt.ownBlock = some k)).alloc (.cells #[.int .i64 kind, .int .u64 v] 25))
  obtain ⟨z, hz⟩ : ∃ z, z = w1.heap.size := ⟨_, rfl⟩
  rw [← hz] at HR2 ⊢
  have HZ := Aside0.mk hz
  clear hb1 hrow1 h1b hz k0
  generalize w1.alloc (.cells #[.int .i64 kind, .int .u64 v] 25) = w2 at HB2 HO2 HR2 HL2 HK2 HW2 ⊢
  obtain ⟨A2, c2, rfl⟩ := own_slice HO2.out
  have c0 : w2.cell? ⟨s, 2, none⟩ = some (.slice A2 nt c2) := (blk_cell HB2.out 2).trans rfl
  have d0 : w2.cell? ⟨z, 0, none⟩ = some (.int .i64 kind) := (blk_cell HR2.out 0).trans rfl
  have d1 : w2.cell? ⟨z, 1, none⟩ = some (.int .u64 v) := (blk_cell HR2.out 1).trans rfl
  have cA := some_alloc c0 (.cells #[.int .i64 kind, .int .u64 v] 25)
  obtain ⟨j0, hj0, hz0, hz1, hz2⟩ := info_parts info25
  have HJ := Aside0.mk (And.intro hj0 (And.intro hz0 (And.intro hz1 hz2)))
  clear hj0 hz0 hz1 hz2
  go_region_law ((refine step_append_lies _ (by rfl) (.tmp 22) (.tmp 24) 45 (by rfl) B 25 j0 _ 2 16 Try.underlying45 HJ.out.1 HJ.out.2.1 HJ.out.2.2.1 HJ.out.2.2.2 rfl (by omega) _ nt rs (by simp [Act.eval, Act.put]) (HO2.out.alloc _) ⟨w2.heap.size, 0, none⟩ 1 1 [.int .i64 kind, .int .u64 v] (by simp [Act.eval, Act.put]) (by rfl) (World.news_of_block (cs := #[.int .i64 kind, .int .u64 v]) (t := 25) (fr := (0, 0)) (heap_alloc_new w2 _)) (by simp [Value.oneCell']) (by omega) (by have := HNT.out; unfold maxLen; omega) (by have := HNT.out; omega) (by have := HL2.out.size; have h2 := HT.out.size; have h3 := HS.out.2.2; simp; omega) (w2.heap.size + 1) (by simp) ?_; intro gg cap w3 hown1 hgrow hat hlt; have HB3 := Aside0.mk (blk_grown (blk_drew (blk_alloc HB2.out (.cells #[.int .i64 kind, .int .u64 v] 25))) hgrow (own_ne HO2.out HB2.out (by decide))); have d4 := (blk_cell HB3.out 2).trans rfl; have f4 := blk_frozen HB3.out 2; have HO3 := Aside0.mk hown1; have HG3 := Aside0.mk hgrow; have HAT := Aside0.mk hat; clear hown1 hgrow hat hlt))
  all_goals
    have hzv : some z ≠ (Value.slice A2 nt c2).ownBlock := fun h => by have h1 := own_lt HO1.out z h.symm; have h2 := HZ.out; omega
    have HR3 := Aside0.mk (blk_far (blk_grown (blk_drew (blk_alloc HR2.out (.cells #[.int .i64 kind, .int .u64 v] 25))) HG3.out hzv) (p := ⟨s, 2, none⟩) (by have h1 := blk_lt HB1.out; have h2 := HZ.out; simp; omega) (.slice (some ⟨gg, 0, none⟩) (nt + 1) cap))
    have HB4 := Aside0.mk (blk_set HB3.out 2 (.slice (some ⟨gg, 0, none⟩) (nt + 1) cap))
    have HO4 := Aside0.mk (own_setCell HO3.out (p := ⟨s, 2, none⟩) (own_ne HO3.out HB3.out (by decide)) (.slice (some ⟨gg, 0, none⟩) (nt + 1) cap))
    have HK4 := Aside0.mk ((Kept.of_grown HG3.out ((HK2.out.alloc (.cells #[.int .i64 kind, .int .u64 v] 25)).drew) (fun k hk => .inl (.inr hk))).setCell (p := ⟨s, 2, none⟩) (.inl (.inl rfl)) (.slice (some ⟨gg, 0, none⟩) (nt + 1) cap))
    have HL4 := Aside0.mk ((((HL2.out.alloc (by have h1 := HL2.out.size; have h2 := HT.out.size; have h3 := HS.out.2.2; omega) (.cells #[.int .i64 kind, .int .u64 v] 25)).drew).grown HG3.out (by have h1 := HL2.out.size; have h2 := HT.out.size; have h3 := HS.out.2.2; simp; omega) (own_base HO2.out)).setCell (p := ⟨s, 2, none⟩) H.out.ge (.slice (some ⟨gg, 0, none⟩) (nt + 1) cap))
    clear c0 d0 d1 cA d4 f4 hzv
    generalize w3.setCell ⟨s, 2, none⟩ (.slice (some ⟨gg, 0, none⟩) (nt + 1) cap) = w4 at HR3 HB4 HO4 HK4 HL4 ⊢
    have z3 : w4.cell? ⟨s, 3, none⟩ = some (.func (.func 28) #[] #[.pointer (some ⟨zs, 0, none⟩)]) := (blk_cell HB4.out 3).trans rfl
    have y0 : w4.cell? ⟨z, 0, none⟩ = some (.int .i64 kind) := (blk_cell HR3.out 0).trans rfl
    have y1 : w4.cell? ⟨z, 1, none⟩ = some (.int .u64 v) := (blk_cell HR3.out 1).trans rfl
    have hneq : ∀ W, (binOp .neq 53 (.func (.func 28) #[] #[.pointer (some ⟨zs, 0, none⟩)]) .nilFunc).run Try.prog W = .ok (.bool true) W := fun W => neq_see zs W
    have hsn1 : Seen B w1 zs vn S := ⟨HSN.out.ge, (HT.out.block zs HZO.out.1 (blk_lt HSN.out.blk)).trans HSN.out.blk, own_reach HSN.out.row HT.out HZO.out.2.1⟩
    have hsn4 : Seen B w4 zs vn S := ⟨HSN.out.ge, blk_kept hsn1.blk HK4.out (fun hh => hh.elim (fun e => blk_ne hsn1.blk HB1.out (by decide) e) (fun e => by obtain ⟨cs, hc⟩ := own_typed HO1.out zs e; exact blk_ne hsn1.blk hc (by decide) rfl)), own_kept hsn1.row HK4.out (fun k hk hh => hh.elim (fun e => by obtain ⟨cs, hc⟩ := own_typed hsn1.row k hk; rw [e] at hc; exact blk_ne hc HB1.out (by decide) rfl) (fun e => HZO.out.2.2 k hk e))⟩
    have HSN4 := Aside0.mk hsn4
    have HSC := Aside0.mk (fun (W : World) (hw : W.heap = w4.heap) (hb : Below B w1 W) => see_calls B zs vn S kind v W ⟨hsn4.ge, by rw [hw]; exact hsn4.blk, own_move hsn4.row (fun k _ => by rw [hw])⟩ (Nat.le_trans (Nat.le_trans HS.out.2.2 HT.out.size) hb.size) HSL.out)
    have HL4D := Aside0.mk (HL4.out.drew)
    have HVN := Aside0.mk (fun k (hk : vn.ownBlock = some k) => own_lt hsn1.row k hk)
    clear hsn1 hsn4
    have HHB := Aside0.mk (show ∀ W, (binOp .neq 53 (.func (.func 28) #[] #[.pointer (some ⟨zs, 0, none⟩)]) .nilFunc).run Try.prog W = .ok (.bool true) W from hneq)
    have HZS := Aside0.mk (show zs < w1.heap.size from Nat.lt_of_lt_of_le (blk_lt HSN.out.blk) HT.out.size)
    go_wp2
    go_still_tail 5, (by kernel_rfl)
    change wpList _ _ _ _ _ w4.drew
    go_wp2_with (go_at_call 28; (with_reducible refine (HSC.out w4.drew rfl HL4D.out).mono ?_); rintro e w5 ⟨rfl, vn', hs5, hk5, hat5, hb5⟩; have HE0 := Aside0.mk (And.intro hs5 (And.intro hk5 (And.intro hat5 hb5))); have hz5 := blk_kept (show w4.drew.heap[z]? = _ from HR3.out) hk5 (fun hh => hh.elim (fun e => by have h1 := HZS.out; have h2 := HZ.out; omega) (fun e => by have h1 := HVN.out z e; have h2 := HZ.out; omega)); have x1 : w5.cell? ⟨z, 1, none⟩ = some (.int .u64 v) := (blk_cell hz5 1).trans rfl; clear hs5 hk5 hat5 hb5 hz5)
    obtain ⟨hs5, hk5, hat5, hb5⟩ := HE0.out
    have hz5 := blk_kept (show w4.drew.heap[z]? = _ from HR3.out) hk5 (fun hh => hh.elim (fun e => by have h1 := HZS.out; have h2 := HZ.out; omega) (fun e => by have h1 := HVN.out z e; have h2 := HZ.out; omega))
    have hkk := hk5
    have hsrc5 : Srce B w5 s K L o (.slice (some ⟨gg, 0, none⟩) (nt + 1) cap) (nt + 1) (rs ++ [.int .i64 kind, .int .u64 v]) (seeV zs) := by
      have hb40 : w4.heap[s]? = some (.cells #[.func (.func K) #[.pointer (some ⟨o, 0, none⟩)] #[], .func (.func L) #[.pointer (some ⟨o, 0, none⟩)] #[], .slice (some ⟨gg, 0, none⟩) (nt + 1) cap, .func (.func 28) #[] #[.pointer (some ⟨zs, 0, none⟩)]] 144 (0, 0)) := by simpa using HB4.out
      have hb4 : w4.drew.heap[s]? = some (.cells #[.func (.func K) #[.pointer (some ⟨o, 0, none⟩)] #[], .func (.func L) #[.pointer (some ⟨o, 0, none⟩)] #[], .slice (some ⟨gg, 0, none⟩) (nt + 1) cap, .func (.func 28) #[] #[.pointer (some ⟨zs, 0, none⟩)]] 144 (0, 0)) := hb40
      have hro : w4.drew.ownsRow B 25 2 (.slice (some ⟨gg, 0, none⟩) (nt + 1) cap) (nt + 1) (rs ++ [.int .i64 kind, .int .u64 v]) := HO4.out
      refine ⟨H.out.ge, blk_kept hb4 hk5 (fun hh => hh.elim (fun e => blk_ne hb4 (show w4.drew.heap[zs]? = _ from HSN4.out.blk) (by decide) e) (fun e => by obtain ⟨cs, hc⟩ := own_typed HSN4.out.row s e; exact blk_ne hb4 (show w4.drew.heap[s]? = _ from hc) (by decide) rfl)), own_kept hro hk5 (fun k hk hh => ?_)⟩
      rcases hh with rfl | hh
      · obtain ⟨cs, hc⟩ := own_typed hro k hk
        exact blk_ne hc (show w4.drew.heap[k]? = _ from HSN4.out.blk) (by decide) rfl
      · rcases at_of HAT.out (z := w1.heap.size) (by have h1 := HW2.out; omega) k hk with h1 | h1
        · exact HZO.out.2.2 k hh h1
        · have := HVN.out k hh; omega
    have hap : ∀ k, vn'.ownBlock = some k → (Value.slice (some ⟨gg, 0, none⟩) (nt + 1) cap).ownBlock ≠ some k := fun k hk hh => by
      rcases hat5 k hk with h1 | h1
      · rcases at_of HAT.out (z := w1.heap.size) (by have h1 := HW2.out; omega) k hh with h2 | h2
        · exact HZO.out.2.2 k h1 h2
        · have := HVN.out k h1; omega
      · have h3 := own_lt HO4.out k hh
        have h4 : w4.drew.heap.size = w4.heap.size := rfl
        omega
    have hat' : ∀ k, vn'.ownBlock = some k → vn.ownBlock = some k ∨ w1.heap.size ≤ k := fun k hk => by
      rcases hat5 k hk with h1 | h1
      · exact .inl h1
      · exact .inr (Nat.le_trans HK4.out.1 h1)
    have HE := Aside0.mk (And.intro hsrc5 (And.intro hs5 (And.intro hap (And.intro hat' (And.intro hk5 hb5)))))
    clear hs5 hk5 hat5 hb5 hz5 hkk hsrc5 hap hat'
    go_ret
    refine ⟨rfl, w1, _, _, HT.out, H1.out, HE.out.1, HE.out.2.1, ?_, at_of HAT.out (by have h1 := HW2.out; omega), HE.out.2.2.2.1, HE.out.2.2.1, HL4D.out.trans HE.out.2.2.2.2.2⟩
    exact (HK4.out.mono (fun k hk => hk.elim .inl (fun h => .inr (.inl h)))).then_ (show Kept w4 w5 _ from HE.out.2.2.2.2.1) (fun k hk => .inl (.inr (.inr hk)))
/-- A source that is seen: beside its generator, what was drawn, and what was seen. -/
structure Sn (see : Value) (B : Nat) (F : Nat → Prop) (w : World) (s K L o : Nat) (vt : Value) (nt : Nat) (rs : List Value) (zs : Nat) (vn : Value) (S : List (Int × Int)) : Prop where
  src : Srce B w s K L o vt nt rs see
  off : Off F vt
  seen : Seen B w zs vn S
  noff : Off F vn
  ap : ∀ k, vn.ownBlock = some k → vt.ownBlock ≠ some k
theorem Seen.tame {B : Nat} {w w' : World} {z : Nat} {vn : Value} {S : List (Int × Int)} (h : Seen B w z vn S) (ht : Tame w w') : Seen B w' z vn S := ⟨h.ge, ht _ _ _ h.blk (by decide) (by decide), own_tame h.row ht (by decide) (by decide)⟩
theorem Sn.tame {see : Value} {B : Nat} {F : Nat → Prop} {w w' : World} {s K L o : Nat} {vt : Value} {nt : Nat} {rs : List Value} {zs : Nat} {vn : Value} {S : List (Int × Int)} (h : Sn see B F w s K L o vt nt rs zs vn S) (ht : Tame w w') : Sn see B F w' s K L o vt nt rs zs vn S := ⟨h.src.tame ht, h.off, h.seen.tame ht, h.noff, h.ap⟩
set_option maxHeartbeats 1000000 in
theorem gdraw21_see (B s K L o : Nat) (F : Nat → Prop) (J J' : World → Prop) (hG : Gen F J) (hG' : Gen F J') (hFo : F o) (vt : Value) (nt : Nat) (rs : List Value) (kind n m v : Int) (zs : Nat) (vn : Value) (S : List (Int × Int)) (w : World) (hJ : J w) (hN : Sn (seeV zs) B F w s K L o vt nt rs zs vn S) (hzF : ∀ i, F i → i ≠ zs) (hSl : S.length ≤ 1000) (hB : B ≤ w.heap.size) (hoB : B ≤ o) (hK : ∀ caps W, (callFunc K caps).run Try.prog W = .ok (.enter K caps) W)
    (hm : (if n < 1 then 1 else n) = m) (hv0 : 0 ≤ v) (hv1 : v ≤ 9223372036854775807) (hnt : nt ≤ 1000)
    (hrunK : ∀ W, J W → B ≤ W.heap.size → Calls Try.prog K #[.pointer (some ⟨o, 0, none⟩), .int .i64 kind, .int .i64 m] W fun e w' => e = .returned (.int .u64 v) ∧ Reach o W w' ∧ J' w') :
    Calls Try.prog 21 #[.pointer (some ⟨s, 0, none⟩), .int .i64 kind, .int .i64 n] w fun e w' =>
      e = .returned (.tuple #[.int .i64 v, .int .i64 0, .agg zU]) ∧ ∃ vt' vn', J' w' ∧ Sn (seeV zs) B F w' s K L o vt' (nt + 1) (rs ++ [.int .i64 kind, .int .u64 v]) zs vn' (S ++ [(kind, v)]) ∧ Kept w w' (fun k => k = o ∨ k = s ∨ vt.ownBlock = some k ∨ k = zs ∨ vn.ownBlock = some k) ∧ Below B w w' := by
  have hn1 := dW_size w s kind n
  have hS := hN.src
  have hsW := blk_lt hS.blk
  have hvW : ∀ k, vt.ownBlock = some k → k < w.heap.size := own_lt hS.row
  have hnW : ∀ k, vn.ownBlock = some k → k < w.heap.size := own_lt hN.seen.row
  have hzW := blk_lt hN.seen.blk
  have hFW : ∀ i, F i → i < w.heap.size := fun i hi => hG.lt hJ hi
  have hFs : ∀ i, F i → i ≠ s := fun i hi e => by
    subst e
    obtain ⟨cs, t, hc, _, _, h144⟩ := hG.typ w hJ i hi
    rw [hS.blk] at hc
    injection hc with hc
    injection hc with _ hc
    exact h144 hc.symm
  -- the run inside the guard
  have hrun : ∀ W, Below (dW w s kind n).heap.size (dW w s kind n) W → Calls Try.prog 61 (dCaps w) W fun e w' => e = .returned (.tuple #[]) ∧ Since (dW w s kind n).heap.size W w' ∧
      (∃ vt' vn', J' w' ∧ Sn (seeV zs) B F w' s K L o vt' (nt + 1) (rs ++ [.int .i64 kind, .int .u64 v]) zs vn' (S ++ [(kind, v)]) ∧ Kept w w' (fun k => k = o ∨ k = s ∨ vt.ownBlock = some k ∨ k = zs ∨ vn.ownBlock = some k) ∧ Below B (dW w s kind n) w' ∧ w'.heap[w.heap.size + 1 + 1 + 1]? = some (.cells zU 27 (0, 0)) ∧ w'.heap[w.heap.size + 1 + 1 + 1 + 1]? = some (.cells #[.int .i64 v] 3 (0, 0))) := by
    intro W hW
    have hwW : Below w.heap.size w W := (dW_below w s kind n).trans (hW.mono (dW_below w s kind n).size)
    have hJ1 : J W := hG.below hJ hwW
    have hS1 : Srce B W s K L o vt nt rs (seeV zs) := hS.below hwW
    have a0 := blk_below (dW_0 w s kind n) hW
    have a1 := blk_below (dW_1 w s kind n) hW
    have a2 := blk_below (dW_2 w s kind n) hW
    have a3 := blk_below (dW_3 w s kind n) hW
    have a4 := blk_below (dW_4 w s kind n) hW
    have hd := draw_see B s K L o vt nt rs zs vn S kind n m v W J' hS1 (hN.seen.below hwW) (Ne.symm (hFs o hFo)) (hN.off o hFo) (Ne.symm (hzF o hFo)) (hN.noff o hFo) hN.ap hK hm hv0 hv1 hnt hSl (Nat.le_trans hB hwW.size) (hrunK W hJ1 (Nat.le_trans hB hwW.size))
    have hr := run_ok s w.heap.size (w.heap.size + 1) (w.heap.size + 1 + 1) (w.heap.size + 1 + 1 + 1 + 1) kind n v 0 W (fun w' => ∃ vt' vn', J' w' ∧ Sn (seeV zs) B F w' s K L o vt' (nt + 1) (rs ++ [.int .i64 kind, .int .u64 v]) zs vn' (S ++ [(kind, v)]) ∧ Kept W w' (fun k => k = o ∨ k = s ∨ vt.ownBlock = some k ∨ k = zs ∨ vn.ownBlock = some k) ∧ Below B W w' ∧ Since (dW w s kind n).heap.size W w' ∧ w'.heap[w.heap.size + 1 + 1 + 1]? = some (.cells zU 27 (0, 0))) a0 a1 a2
      (hd.mono fun e w' ⟨h1, w1, vt', vn', ht, hJ2, hS2, hn2, hk2, hat, han, hap, hb2⟩ => by
        have nin : ∀ g, w.heap.size ≤ g → ¬ (g = s ∨ vt.ownBlock = some g ∨ g = zs ∨ vn.ownBlock = some g) := fun g hg hh => by
          rcases hh with h | h | h | h
          · omega
          · have := hvW g h; omega
          · omega
          · have := hnW g h; omega
        have keep : ∀ (g : Nat) (cs : Array Value) (t : TypeId), W.heap[g]? = some (Obj.cells cs t (0, 0)) → w.heap.size ≤ g → w'.heap[g]? = some (Obj.cells cs t (0, 0)) := fun g cs t hg hge =>
          blk_kept ((ht.block g (by have := hFW o hFo; omega) (blk_lt hg)).trans hg) hk2 (nin g hge)
        have hoff' : ∀ (v0 v' : Value), Off F v0 → (∀ k, v'.ownBlock = some k → v0.ownBlock = some k ∨ w1.heap.size ≤ k) → Off F v' := fun v0 v' h0 ha i hi e => by
          rcases ha i e with h | h
          · exact h0 i hi h
          · have h1 := ht.size; have h2 := hwW.size; have h3 := hFW i hi; omega
        refine ⟨h1, ⟨vt', vn', hG'.kept hJ2 hk2 (fun i hi hh => ?_), ⟨hS2, hoff' vt vt' hN.off hat, hn2, hoff' vn vn' hN.noff han, hap⟩, (kept_reach ht).then_ hk2 (fun k hk => .inl (.inr hk)), (ht.below hoB (Nat.le_trans hB hwW.size)).trans hb2, ⟨Nat.le_trans ht.size hk2.1, fun i hi hlt => ?_⟩, keep _ _ _ a3 (by omega)⟩, keep _ _ _ a4 (by omega)⟩
        · rcases hh with h | h | h | h
          · exact hFs i hi h
          · exact hN.off i hi h
          · exact hzF i hi h
          · exact hN.noff i hi h
        · exact (hk2.2 i (Nat.lt_of_lt_of_le hlt ht.size) (nin i (by omega))).trans (ht.block i (by have := hFW o hFo; omega) hlt))
    refine hr.mono fun e w' ⟨h1, w1, ⟨vt', vn', hJ2, hS2, hk3, hb2, hs2, h3⟩, h4, hw⟩ => ⟨h1, ?_, vt', vn', ?_⟩
    · rw [hw]
      exact ⟨Nat.le_trans hs2.1 (by simp [World.setCell]), fun i hi hlt => (Below.heap_setCell w1 _ _ i (by simp; omega)).trans (hs2.2 i hi hlt)⟩
    · have ht : Tame w1 w' := by rw [hw]; exact (Tame.refl w1).set h4 (.inl rfl) 0 _
      refine ⟨hG'.tame hJ2 ht, hS2.tame ht, ?_, ?_, ?_, ?_⟩
      · rw [hw]
        exact ((Kept.of_below hwW _).then_ hk3 (fun k hk => .inl hk)).setCell (.inr (by simp; omega)) _
      · rw [hw]
        exact ((hW.mono (Nat.le_trans hB (dW_below w s kind n).size)).trans hb2).setCell (by simp; omega) _
      · rw [hw]; exact blk_far h3 (by simp) _
      · rw [hw]; simpa using blk_set h4 0 (.int .i64 v)
  have hg := guard_well 61 (dCaps w) (callFunc61 _) (dW w s kind n) _ hrun
  have hd := draw21 s kind n v 0 0 0 0 0 0 w (fun w' => ∃ vt' vn', J' w' ∧ Sn (seeV zs) B F w' s K L o vt' (nt + 1) (rs ++ [.int .i64 kind, .int .u64 v]) zs vn' (S ++ [(kind, v)]) ∧ Kept w w' (fun k => k = o ∨ k = s ∨ vt.ownBlock = some k ∨ k = zs ∨ vn.ownBlock = some k) ∧ Below B (dW w s kind n) w')
    (hg.mono fun e w' ⟨h1, w1, ⟨vt', vn', hJ2, hS2, hk3, hb2, h3, h4⟩, ht, hb⟩ => ⟨h1, ⟨vt', vn', hG'.tame hJ2 ht, hS2.tame ht, hk3.then_ (kept_since hb) (fun k hk => .inr (by omega)), hb2.trans (hb.mono (Nat.le_trans hB (dW_below w s kind n).size))⟩, (hb.block _ (by omega)).trans h3, (hb.block _ (by omega)).trans h4⟩)
  exact hd.mono fun e w' ⟨h1, w1, ⟨vt', vn', hJ2, hS2, hk3, hb2⟩, ht, hb⟩ => ⟨h1, vt', vn', hG'.tame hJ2 ht, hS2.tame ht, hk3.then_ (kept_since hb) (fun k hk => .inr hk), (((dW_below w s kind n).mono hB).trans hb2).trans (hb.mono hB)⟩
theorem Sn.below {see : Value} {B : Nat} {F : Nat → Prop} {w w' : World} {s K L o : Nat} {vt : Value} {nt : Nat} {rs : List Value} {zs : Nat} {vn : Value} {S : List (Int × Int)} (h : Sn see B F w s K L o vt nt rs zs vn S) (hb : Below w.heap.size w w') : Sn see B F w' s K L o vt nt rs zs vn S := ⟨h.src.below hb, h.off, h.seen.below hb, h.noff, h.ap⟩
/-- What is kept beside a generator stands with it. -/
theorem gen_seen {F : Nat → Prop} {J : World → Prop} (hG : Gen F J) (B zs : Nat) (vn : Value) (S : List (Int × Int)) : Gen (fun i => F i ∨ i = zs ∨ vn.ownBlock = some i) (fun W => J W ∧ Seen B W zs vn S) :=
  ⟨fun a b h hm => ⟨hG.st a b h.1 (fun i hi => hm i (.inl hi)), ⟨h.2.ge, (hm zs (.inr (.inl rfl))).trans h.2.blk, own_move h.2.row fun k hk => hm k (.inr (.inr hk))⟩⟩, fun W h i hi => by
    rcases hi with hi | rfl | hi
    · exact hG.typ W h.1 i hi
    · exact ⟨_, _, h.2.blk, by decide, by decide, by decide⟩
    · obtain ⟨cs, hc⟩ := own_typed h.2.row i hi
      exact ⟨cs, _, hc, by decide, by decide, by decide⟩⟩
theorem Seen.reach {B : Nat} {w w' : World} {o z : Nat} {vn : Value} {S : List (Int × Int)} (h : Seen B w z vn S) (ht : Reach o w w') (hz : z ≠ o) (hv : vn.ownBlock ≠ some o) : Seen B w' z vn S := ⟨h.ge, (ht.block z hz (blk_lt h.blk)).trans h.blk, own_reach h.row ht hv⟩
/-- A draw that nobody sees, beside what was seen. -/
theorem gdraw21_un_seen (B s K L o : Nat) (F : Nat → Prop) (J J' : World → Prop) (hG : Gen F J) (hG' : Gen F J') (hFo : F o) (vt : Value) (nt : Nat) (rs : List Value) (kind n m v : Int) (zs : Nat) (vn : Value) (S : List (Int × Int)) (w : World) (hJ : J w) (hN : Sn .nilFunc B F w s K L o vt nt rs zs vn S) (hzF : ∀ i, F i → i ≠ zs) (hB : B ≤ w.heap.size) (hoB : B ≤ o) (hK : ∀ caps W, (callFunc K caps).run Try.prog W = .ok (.enter K caps) W)
    (hm : (if n < 1 then 1 else n) = m) (hv0 : 0 ≤ v) (hv1 : v ≤ 9223372036854775807) (hnt : nt ≤ 1000)
    (hrunK : ∀ W, J W → B ≤ W.heap.size → Calls Try.prog K #[.pointer (some ⟨o, 0, none⟩), .int .i64 kind, .int .i64 m] W fun e w' => e = .returned (.int .u64 v) ∧ Reach o W w' ∧ J' w') :
    Calls Try.prog 21 #[.pointer (some ⟨s, 0, none⟩), .int .i64 kind, .int .i64 n] w fun e w' =>
      e = .returned (.tuple #[.int .i64 v, .int .i64 0, .agg zU]) ∧ ∃ vt', J' w' ∧ Sn .nilFunc B F w' s K L o vt' (nt + 1) (rs ++ [.int .i64 kind, .int .u64 v]) zs vn S ∧ Kept w w' (fun k => k = o ∨ k = s ∨ vt.ownBlock = some k) ∧ Below B w w' := by
  refine (gdraw21_ok B s K L o _ _ _ (gen_seen hG B zs vn S) (gen_seen hG' B zs vn S) (.inl hFo) vt nt rs kind n m v w ⟨hJ, hN.seen⟩ hN.src (fun i hi => ?_) hB hoB hK hm hv0 hv1 hnt
    (fun W hj hb => (hrunK W hj.1 hb).mono fun e w' ⟨h1, h2, h3⟩ => ⟨h1, h2, h3, hj.2.reach h2 (Ne.symm (hzF o hFo)) (hN.noff o hFo)⟩)).mono fun e w' ⟨h1, vt', h2, h3, h4, h5, h6⟩ =>
      ⟨h1, vt', h2.1, ⟨h3, fun i hi => h4 i (.inl hi), h2.2, hN.noff, fun k hk => h4 k (.inr (.inr hk))⟩, h5, h6⟩
  rcases hi with hi | rfl | hi
  · exact hN.off i hi
  · intro e
    obtain ⟨cs, hc⟩ := own_typed hN.src.row _ e
    exact blk_ne hc hN.seen.blk (by decide) rfl
  · exact hN.ap i hi
end Go.Proofs.Ythlllcmffgdcmab.Src

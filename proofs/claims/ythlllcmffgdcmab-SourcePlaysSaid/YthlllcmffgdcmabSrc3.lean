import Derived.Test.YthlllcmffgdcmabSrc2
import Derived.WalkLawsBesides
import Derived.StillTailTactics
import Derived.Deep.RegionLaw
import Derived.Deep.AppendLies
namespace Go.Proofs.Ythlllcmffgdcmab.Src
open Go.RowKit Go.Proofs.YthlllcmffgdcmabW.PrintWords Go.Proofs.YthlllcmffgdcmabW.PrintLast Go.Proofs.YthlllcmffgdcmabW.PrintMore
attribute [local go_sem] max2_int min2_int max_two min_two
set_option linter.unusedVariables false
set_option linter.unusedSimpArgs false

/-- What a draw panics with, if there is none. -/
def dryV : Value := .iface 168 (.agg #[])

set_option maxHeartbeats 1000000 in
theorem odraw_dry (B o : Nat) (l : List Int) (vl : Value) (kind n : Int) (w : World) (h : Orc B w o l l.length vl) : Calls Try.prog 59 #[.pointer (some ⟨o, 0, none⟩), .int .i64 kind, .int .i64 n] w fun e w' =>
    e = .panicked [{ v := dryV, recovered := false }] ∧ ∃ m, w' = w.drewN m := by
  obtain ⟨A1, c1, rfl, hle, hrd⟩ := own_reads_of_le (enc := Value.int .u64) (d := (0 : Int)) h.row
  have k0 : w.cell? ⟨o, 0, none⟩ = some (.slice A1 l.length c1) := (blk_cell h.blk 0).trans rfl
  have k1 : w.cell? ⟨o, 1, none⟩ = some (.int .i64 l.length) := (blk_cell h.blk 1).trans rfl
  clear h hrd
  go_enter Try.func59, Try.ntmps59
  go_wp2
  go_quiet (fail)
  go_wp2
  exact ⟨rfl, rfl, nq, rfl⟩

theorem info25 : (Try.prog.info? 25).map (fun i => (i.zero, i.size, i.bytes)) = some (some (.agg #[.int .i64 0, .int .u64 0]), 2, 16) := by kernel_rfl

theorem neq_nil (w : World) : (binOp .neq 53 .nilFunc .nilFunc).run Try.prog w = .ok (.bool false) w := by kernel_rfl
theorem own_touch {B : Nat} {w w1 : World} {o : Nat} {e : TypeId} {size n : Nat} {v : Value} {xs : List Value} (h : w.ownsRow B e size v n xs) (ht : Touch o w w1) (hne : v.ownBlock ≠ some o) : w1.ownsRow B e size v n xs := by
  obtain ⟨h1, h2⟩ := h
  refine ⟨h1, ?_⟩
  rcases h2 with h2 | ⟨g, cap, cur, rfl, hb, hh, r⟩
  · exact .inl h2
  · exact .inr ⟨g, cap, cur, rfl, hb, (ht.block g (fun he => hne (by rw [← he]; rfl))).trans hh, r⟩

set_option maxHeartbeats 2000000 in
set_option maxRecDepth 100000 in
theorem draw_ok (B s K L o : Nat) (vt : Value) (nt : Nat) (rs : List Value) (kind n m v : Int) (w : World) (R : World → Prop) (h : Srce B w s K L o vt nt rs .nilFunc) (hso : s ≠ o) (hvo : vt.ownBlock ≠ some o) (hK : ∀ caps W, (callFunc K caps).run Try.prog W = .ok (.enter K caps) W)
    (hm : (if n < 1 then 1 else n) = m) (hv0 : 0 ≤ v) (hv : v ≤ 9223372036854775807) (hnt : nt ≤ 1000) (hB : B ≤ w.heap.size)
    (hrun : Calls Try.prog K #[.pointer (some ⟨o, 0, none⟩), .int .i64 kind, .int .i64 m] w fun e w' => e = .returned (.int .u64 v) ∧ Touch o w w' ∧ R w') : Calls Try.prog 62 #[.pointer (some ⟨s, 0, none⟩), .int .i64 kind, .int .i64 n] w fun e w' =>
    e = .returned (.int .i64 v) ∧ ∃ w1 vt', Touch o w w1 ∧ R w1 ∧ Srce B w' s K L o vt' (nt + 1) (rs ++ [.int .i64 kind, .int .u64 v]) .nilFunc ∧ Kept w1 w' (fun k => k = s ∨ vt.ownBlock = some k) ∧ Below B w1 w' := by
  have H := Aside0.mk h
  have HR := Aside0.mk hrun
  have k0 : w.cell? ⟨s, 0, none⟩ = some (.func (.func K) #[.pointer (some ⟨o, 0, none⟩)] #[]) := (blk_cell h.blk 0).trans rfl
  have HS := Aside0.mk (And.intro hso (And.intro hvo hB))
  have HNT := Aside0.mk hnt
  clear h hrun hso hvo
  go_enter Try.func62, Try.ntmps62
  go_wp2
  refine HR.out.mono ?_
  rintro e w1 ⟨rfl, ht, hR⟩
  have HT := Aside0.mk ht
  have H1 := Aside0.mk hR
  clear ht hR
  go_wp2
  have h1b : Touch o w w1 := HT.out
  have hb1 : w1.heap[s]? = some (.cells #[.func (.func K) #[.pointer (some ⟨o, 0, none⟩)] #[], .func (.func L) #[.pointer (some ⟨o, 0, none⟩)] #[], vt, .nilFunc] 144 (0, 0)) := (HT.out.block s HS.out.1).trans H.out.blk
  have hrow1 : w1.ownsRow B 25 2 vt nt rs := own_touch H.out.row HT.out HS.out.2.1
  have HB2 := Aside0.mk (blk_alloc hb1 (.cells #[.int .i64 kind, .int .u64 v] 25))
  have HO2 := Aside0.mk (hrow1.alloc (.cells #[.int .i64 kind, .int .u64 v] 25))
  have HR2 := Aside0.mk (blk_new w1 (.cells #[.int .i64 kind, .int .u64 v] 25))
  have HB1 := Aside0.mk hb1
  have HO1 := Aside0.mk hrow1
  have HL2 := Aside0.mk ((Below.refl B w1).alloc (by rw [HT.out.size]; exact hB) (.cells #[.int .i64 kind, .int .u64 v] 25))
  have HK2 := Aside0.mk ((Kept.refl w1 (fun k => k = s ∨ vt.ownBlock = some k)).alloc (.cells #[.int .i64 kind, .int .u64 v] 25))
  obtain ⟨z, hz⟩ : ∃ z, z = w1.heap.size := ⟨_, rfl⟩
  rw [← hz] at HR2 ⊢
  have HZ := Aside0.mk hz
  clear hb1 hrow1 h1b hz k0
  generalize w1.alloc (.cells #[.int .i64 kind, .int .u64 v] 25) = w2 at HB2 HO2 HR2 HL2 HK2 ⊢
  obtain ⟨A2, c2, rfl⟩ := own_slice HO2.out
  have c0 : w2.cell? ⟨s, 2, none⟩ = some (.slice A2 nt c2) := (blk_cell HB2.out 2).trans rfl
  have d0 : w2.cell? ⟨z, 0, none⟩ = some (.int .i64 kind) := (blk_cell HR2.out 0).trans rfl
  have d1 : w2.cell? ⟨z, 1, none⟩ = some (.int .u64 v) := (blk_cell HR2.out 1).trans rfl
  have cA := some_alloc c0 (.cells #[.int .i64 kind, .int .u64 v] 25)
  obtain ⟨j0, hj0, hz0, hz1, hz2⟩ := info_parts info25
  have HJ := Aside0.mk (And.intro hj0 (And.intro hz0 (And.intro hz1 hz2)))
  clear hj0 hz0 hz1 hz2
  go_region_law ((refine step_append_lies _ (by rfl) (.tmp 22) (.tmp 24) 45 (by rfl) B 25 j0 _ 2 16 Try.underlying45 HJ.out.1 HJ.out.2.1 HJ.out.2.2.1 HJ.out.2.2.2 rfl (by omega) _ nt rs (by simp [Act.eval, Act.put]) (HO2.out.alloc _) ⟨w2.heap.size, 0, none⟩ 1 1 [.int .i64 kind, .int .u64 v] (by simp [Act.eval, Act.put]) (by rfl) (World.news_of_block (cs := #[.int .i64 kind, .int .u64 v]) (t := 25) (fr := (0, 0)) (heap_alloc_new w2 _)) (by simp [Value.oneCell']) (by omega) (by have := HNT.out; unfold maxLen; omega) (by have := HNT.out; omega) (by have := HL2.out.size; have h2 := HT.out.size; have h3 := HS.out.2.2; simp; omega) (w2.heap.size + 1) (by simp) ?_; intro gg cap w3 hown1 hgrow hat hlt; have HB3 := Aside0.mk (blk_grown (blk_drew (blk_alloc HB2.out (.cells #[.int .i64 kind, .int .u64 v] 25))) hgrow (own_ne HO2.out HB2.out (by decide))); have d4 := (blk_cell HB3.out 2).trans rfl; have f4 := blk_frozen HB3.out 2; have HO3 := Aside0.mk hown1; have HG3 := Aside0.mk hgrow; clear hown1 hgrow hat hlt))
  all_goals
    have hzv : some z ≠ (Value.slice A2 nt c2).ownBlock := fun h => by have h1 := own_lt HO1.out z h.symm; have h2 := HZ.out; omega
    have HR3 := Aside0.mk (blk_far (blk_grown (blk_drew (blk_alloc HR2.out (.cells #[.int .i64 kind, .int .u64 v] 25))) HG3.out hzv) (p := ⟨s, 2, none⟩) (by have h1 := blk_lt HB1.out; have h2 := HZ.out; simp; omega) (.slice (some ⟨gg, 0, none⟩) (nt + 1) cap))
    have HB4 := Aside0.mk (blk_set HB3.out 2 (.slice (some ⟨gg, 0, none⟩) (nt + 1) cap))
    have HO4 := Aside0.mk (own_setCell HO3.out (p := ⟨s, 2, none⟩) (own_ne HO3.out HB3.out (by decide)) (.slice (some ⟨gg, 0, none⟩) (nt + 1) cap))
    have HK4 := Aside0.mk ((Kept.of_grown HG3.out ((HK2.out.alloc (.cells #[.int .i64 kind, .int .u64 v] 25)).drew) (fun k hk => .inl (.inr hk))).setCell (p := ⟨s, 2, none⟩) (.inl (.inl rfl)) (.slice (some ⟨gg, 0, none⟩) (nt + 1) cap))
    have HL4 := Aside0.mk ((((HL2.out.alloc (by have h1 := HL2.out.size; have h2 := HT.out.size; have h3 := HS.out.2.2; omega) (.cells #[.int .i64 kind, .int .u64 v] 25)).drew).grown HG3.out (by have h1 := HL2.out.size; have h2 := HT.out.size; have h3 := HS.out.2.2; simp; omega) (own_base HO2.out)).setCell (p := ⟨s, 2, none⟩) H.out.ge (.slice (some ⟨gg, 0, none⟩) (nt + 1) cap))
    clear c0 d0 d1 cA d4 f4 hzv
    generalize w3.setCell ⟨s, 2, none⟩ (.slice (some ⟨gg, 0, none⟩) (nt + 1) cap) = w4 at HR3 HB4 HO4 HK4 HL4 ⊢
    have z3 : w4.cell? ⟨s, 3, none⟩ = some .nilFunc := (blk_cell HB4.out 3).trans rfl
    have z1 : w4.cell? ⟨z, 1, none⟩ = some (.int .u64 v) := (blk_cell HR3.out 1).trans rfl
    have hneq := neq_nil
    go_wp2
    go_ret
    exact ⟨rfl, w1, _, HT.out, H1.out, ⟨H.out.ge, by simpa using HB4.out, HO4.out⟩, HK4.out, HL4.out⟩

set_option maxHeartbeats 1000000 in
theorem draw_panics (B s K L o : Nat) (vt : Value) (nt : Nat) (rs : List Value) (kind n m : Int) (pv see : Value) (w : World) (R : World → Prop) (h : Srce B w s K L o vt nt rs see) (hK : ∀ caps W, (callFunc K caps).run Try.prog W = .ok (.enter K caps) W)
    (hm : (if n < 1 then 1 else n) = m)
    (hrun : Calls Try.prog K #[.pointer (some ⟨o, 0, none⟩), .int .i64 kind, .int .i64 m] w fun e w' => e = .panicked [{ v := pv, recovered := false }] ∧ R w') : Calls Try.prog 62 #[.pointer (some ⟨s, 0, none⟩), .int .i64 kind, .int .i64 n] w fun e w' =>
    e = .panicked [{ v := pv, recovered := false }] ∧ R w' := by
  have HR := Aside0.mk hrun
  have k0 : w.cell? ⟨s, 0, none⟩ = some (.func (.func K) #[.pointer (some ⟨o, 0, none⟩)] #[]) := (blk_cell h.blk 0).trans rfl
  clear h hrun
  go_enter Try.func62, Try.ntmps62
  go_wp2
  refine HR.out.mono ?_
  rintro e w1 ⟨rfl, hR⟩
  have H1 := Aside0.mk hR
  clear hR
  go_wp2
  exact ⟨rfl, rfl, H1.out⟩
end Go.Proofs.Ythlllcmffgdcmab.Src

import Derived.Test.YthlllcmffgdcmabSrc8
import Derived.WalkLawsBesides
import Derived.StillTailTactics
import Derived.Deep.RegionLaw
import Derived.Deep.AppendLies
namespace Go.Proofs.Ythlllcmffgdcmab.Src
open Go.RowKit Go.Proofs.YthlllcmffgdcmabW.PrintWords Go.Proofs.YthlllcmffgdcmabW.PrintLast Go.Proofs.YthlllcmffgdcmabW.PrintMore
attribute [local go_sem] max2_int min2_int max_two min_two
set_option linter.unusedVariables false
set_option linter.unusedSimpArgs false

/-- But one block all that was there is as it was; there may be more. -/
structure Reach (o : Nat) (w w' : World) : Prop where
  os : w'.os = w.os
  tape : w'.tape = w.tape
  output : w'.output = w.output
  size : w.heap.size ≤ w'.heap.size
  block : ∀ i, i ≠ o → i < w.heap.size → w'.heap[i]? = w.heap[i]?
theorem Reach.refl (o : Nat) (w : World) : Reach o w w := ⟨rfl, rfl, rfl, Nat.le_refl _, fun _ _ _ => rfl⟩
theorem Reach.drewN {o : Nat} {w w' : World} (h : Reach o w w') (n : Nat) : Reach o w (w'.drewN n) := ⟨h.os, h.tape, h.output, h.size, h.block⟩
theorem Reach.drew {o : Nat} {w w' : World} (h : Reach o w w') : Reach o w w'.drew := ⟨h.os, h.tape, h.output, h.size, h.block⟩
theorem Reach.set {o : Nat} {w w' : World} (h : Reach o w w') (i : Nat) (v : Value) : Reach o w (w'.setCell ⟨o, i, none⟩ v) :=
  ⟨h.os, h.tape, h.output, by simpa [World.setCell] using h.size, fun k hk hl => (Below.heap_setCell w' ⟨o, i, none⟩ v k hk).trans (h.block k hk hl)⟩
theorem Reach.step {o : Nat} {w w1 w' : World} (h : Reach o w w1) (hb : Below w1.heap.size w1 w') : Reach o w w' :=
  ⟨hb.os.trans h.os, hb.tape.trans h.tape, hb.output.trans h.output, Nat.le_trans h.size hb.size, fun k hk hl => (hb.block k (Nat.lt_of_lt_of_le hl h.size)).trans (h.block k hk hl)⟩
theorem Reach.below {o : Nat} {w w' : World} (h : Reach o w w') {B : Nat} (hB : B ≤ o) (hw : B ≤ w.heap.size) : Below B w w' := ⟨h.os, h.tape, h.output, h.size, fun i hi => h.block i (by omega) (by omega)⟩
theorem own_reach {B : Nat} {w w1 : World} {o : Nat} {e : TypeId} {size n : Nat} {v : Value} {xs : List Value} (h : w.ownsRow B e size v n xs) (ht : Reach o w w1) (hne : v.ownBlock ≠ some o) : w1.ownsRow B e size v n xs := by
  obtain ⟨h1, h2⟩ := h
  refine ⟨h1, ?_⟩
  rcases h2 with h2 | ⟨g, cap, cur, rfl, hb, hh, r⟩
  · exact .inl h2
  · exact .inr ⟨g, cap, cur, rfl, hb, (ht.block g (fun he => hne (by rw [← he]; rfl)) (blk_lt hh)).trans hh, r⟩
theorem blk_reach {w w' : World} {o g : Nat} {t t' : TypeId} {cs cs' : Array Value} (h : w.heap[g]? = some (.cells cs t (0, 0))) (ho : w.heap[o]? = some (.cells cs' t' (0, 0))) (hne : t ≠ t') (ht : Reach o w w') : w'.heap[g]? = some (.cells cs t (0, 0)) := by
  refine (ht.block g ?_ (blk_lt h)).trans h
  rintro rfl
  rw [h] at ho
  injection ho with ho
  injection ho with _ ho _
  exact hne ho
theorem at_of {v : Value} {g n H cap : Nat} (h : v.ownBlock = some g ∨ g = H + 1) {z : Nat} (hz : z ≤ H) : ∀ k, (Value.slice (some ⟨g, 0, none⟩) n cap).ownBlock = some k → v.ownBlock = some k ∨ z ≤ k := fun k hk => by
  have e : g = k := by simpa [Value.ownBlock] using hk
  subst e
  rcases h with h | h
  · exact .inl h
  · exact .inr (by omega)
theorem kept_reach {o : Nat} {w w' : World} {S : Nat → Prop} (h : Reach o w w') : Kept w w' (fun k => k = o ∨ S k) := ⟨h.size, fun i hi hn => h.block i (fun e => hn (.inl e)) hi⟩
theorem kept_since {n : Nat} {w w' : World} (h : Below n w w') : Kept w w' (fun k => n ≤ k) := ⟨h.size, fun i _ hn => h.block i (by omega)⟩
theorem Touch.reach {o : Nat} {w w' : World} (h : Touch o w w') : Reach o w w' := ⟨h.os, h.tape, h.output, Nat.le_of_eq h.size.symm, fun i hi _ => h.block i hi⟩

set_option maxHeartbeats 2000000 in
set_option maxRecDepth 100000 in
theorem draw_reach (B s K L o : Nat) (vt : Value) (nt : Nat) (rs : List Value) (kind n m v : Int) (w : World) (R : World → Prop) (h : Srce B w s K L o vt nt rs .nilFunc) (hso : s ≠ o) (hvo : vt.ownBlock ≠ some o) (hK : ∀ caps W, (callFunc K caps).run Try.prog W = .ok (.enter K caps) W)
    (hm : (if n < 1 then 1 else n) = m) (hv0 : 0 ≤ v) (hv : v ≤ 9223372036854775807) (hnt : nt ≤ 1000) (hB : B ≤ w.heap.size)
    (hrun : Calls Try.prog K #[.pointer (some ⟨o, 0, none⟩), .int .i64 kind, .int .i64 m] w fun e w' => e = .returned (.int .u64 v) ∧ Reach o w w' ∧ R w') : Calls Try.prog 62 #[.pointer (some ⟨s, 0, none⟩), .int .i64 kind, .int .i64 n] w fun e w' =>
    e = .returned (.int .i64 v) ∧ ∃ w1 vt', Reach o w w1 ∧ R w1 ∧ Srce B w' s K L o vt' (nt + 1) (rs ++ [.int .i64 kind, .int .u64 v]) .nilFunc ∧ Kept w1 w' (fun k => k = s ∨ vt.ownBlock = some k) ∧ (∀ k, vt'.ownBlock = some k → vt.ownBlock = some k ∨ w1.heap.size ≤ k) ∧ Below B w1 w' := by
  have H := Aside0.mk h
  have HR := Aside0.mk hrun
  have k0 : w.cell? ⟨s, 0, none⟩ = some (.func (.func K) #[.pointer (some ⟨o, 0, none⟩)] #[]) := (blk_cell h.blk 0).trans rfl
  have HS := Aside0.mk (And.intro hso (And.intro hvo hB))
  have HNT := Aside0.mk hnt
  clear h hrun hso hvo
  go_enter Try.func62, Try.ntmps62
  go_wp2
  refine HR.out.mono ?_
  rintro e w1 ⟨rfl, ht, hR⟩
  have HT := Aside0.mk ht
  have H1 := Aside0.mk hR
  clear ht hR
  go_wp2
  have h1b : Reach o w w1 := HT.out
  have hb1 : w1.heap[s]? = some (.cells #[.func (.func K) #[.pointer (some ⟨o, 0, none⟩)] #[], .func (.func L) #[.pointer (some ⟨o, 0, none⟩)] #[], vt, .nilFunc] 144 (0, 0)) := (HT.out.block s HS.out.1 (blk_lt H.out.blk)).trans H.out.blk
  have hrow1 : w1.ownsRow B 25 2 vt nt rs := own_reach H.out.row HT.out HS.out.2.1
  have HB2 := Aside0.mk (blk_alloc hb1 (.cells #[.int .i64 kind, .int .u64 v] 25))
  have HO2 := Aside0.mk (hrow1.alloc (.cells #[.int .i64 kind, .int .u64 v] 25))
  have HR2 := Aside0.mk (blk_new w1 (.cells #[.int .i64 kind, .int .u64 v] 25))
  have HB1 := Aside0.mk hb1
  have HO1 := Aside0.mk hrow1
  have HL2 := Aside0.mk ((Below.refl B w1).alloc (Nat.le_trans hB HT.out.size) (.cells #[.int .i64 kind, .int .u64 v] 25))
  have HW2 := Aside0.mk (show w1.heap.size ≤ (w1.alloc (.cells #[.int .i64 kind, .int .u64 v] 25)).heap.size by simp)
  have HK2 := Aside0.mk ((Kept.refl w1 (fun k => k = s ∨ vt.ownBlock = some k)).alloc (.cells #[.int .i64 kind, .int .u64 v] 25))
  obtain ⟨z, hz⟩ : ∃ z, z = w1.heap.size := ⟨_, rfl⟩
  rw [← hz] at HR2 ⊢
  have HZ := Aside0.mk hz
  clear hb1 hrow1 h1b hz k0
  generalize w1.alloc (.cells #[.int .i64 kind, .int .u64 v] 25) = w2 at HB2 HO2 HR2 HL2 HK2 HW2 ⊢
  obtain ⟨A2, c2, rfl⟩ := own_slice HO2.out
  have c0 : w2.cell? ⟨s, 2, none⟩ = some (.slice A2 nt c2) := (blk_cell HB2.out 2).trans rfl
  have d0 : w2.cell? ⟨z, 0, none⟩ = some (.int .i64 kind) := (blk_cell HR2.out 0).trans rfl
  have d1 : w2.cell? ⟨z, 1, none⟩ = some (.int .u64 v) := (blk_cell HR2.out 1).trans rfl
  have cA := some_alloc c0 (.cells #[.int .i64 kind, .int .u64 v] 25)
  obtain ⟨j0, hj0, hz0, hz1, hz2⟩ := info_parts info25
  have HJ := Aside0.mk (And.intro hj0 (And.intro hz0 (And.intro hz1 hz2)))
  clear hj0 hz0 hz1 hz2
  go_region_law ((refine step_append_lies _ (by rfl) (.tmp 22) (.tmp 24) 45 (by rfl) B 25 j0 _ 2 16 Try.underlying45 HJ.out.1 HJ.out.2.1 HJ.out.2.2.1 HJ.out.2.2.2 rfl (by omega) _ nt rs (by simp [Act.eval, Act.put]) (HO2.out.alloc _) ⟨w2.heap.size, 0, none⟩ 1 1 [.int .i64 kind, .int .u64 v] (by simp [Act.eval, Act.put]) (by rfl) (World.news_of_block (cs := #[.int .i64 kind, .int .u64 v]) (t := 25) (fr := (0, 0)) (heap_alloc_new w2 _)) (by simp [Value.oneCell']) (by omega) (by have := HNT.out; unfold maxLen; omega) (by have := HNT.out; omega) (by have := HL2.out.size; have h2 := HT.out.size; have h3 := HS.out.2.2; simp; omega) (w2.heap.size + 1) (by simp) ?_; intro gg cap w3 hown1 hgrow hat hlt; have HB3 := Aside0.mk (blk_grown (blk_drew (blk_alloc HB2.out (.cells #[.int .i64 kind, .int .u64 v] 25))) hgrow (own_ne HO2.out HB2.out (by decide))); have d4 := (blk_cell HB3.out 2).trans rfl; have f4 := blk_frozen HB3.out 2; have HO3 := Aside0.mk hown1; have HG3 := Aside0.mk hgrow; have HAT := Aside0.mk hat; clear hown1 hgrow hat hlt))
  all_goals
    have hzv : some z ≠ (Value.slice A2 nt c2).ownBlock := fun h => by have h1 := own_lt HO1.out z h.symm; have h2 := HZ.out; omega
    have HR3 := Aside0.mk (blk_far (blk_grown (blk_drew (blk_alloc HR2.out (.cells #[.int .i64 kind, .int .u64 v] 25))) HG3.out hzv) (p := ⟨s, 2, none⟩) (by have h1 := blk_lt HB1.out; have h2 := HZ.out; simp; omega) (.slice (some ⟨gg, 0, none⟩) (nt + 1) cap))
    have HB4 := Aside0.mk (blk_set HB3.out 2 (.slice (some ⟨gg, 0, none⟩) (nt + 1) cap))
    have HO4 := Aside0.mk (own_setCell HO3.out (p := ⟨s, 2, none⟩) (own_ne HO3.out HB3.out (by decide)) (.slice (some ⟨gg, 0, none⟩) (nt + 1) cap))
    have HK4 := Aside0.mk ((Kept.of_grown HG3.out ((HK2.out.alloc (.cells #[.int .i64 kind, .int .u64 v] 25)).drew) (fun k hk => .inl (.inr hk))).setCell (p := ⟨s, 2, none⟩) (.inl (.inl rfl)) (.slice (some ⟨gg, 0, none⟩) (nt + 1) cap))
    have HL4 := Aside0.mk ((((HL2.out.alloc (by have h1 := HL2.out.size; have h2 := HT.out.size; have h3 := HS.out.2.2; omega) (.cells #[.int .i64 kind, .int .u64 v] 25)).drew).grown HG3.out (by have h1 := HL2.out.size; have h2 := HT.out.size; have h3 := HS.out.2.2; simp; omega) (own_base HO2.out)).setCell (p := ⟨s, 2, none⟩) H.out.ge (.slice (some ⟨gg, 0, none⟩) (nt + 1) cap))
    clear c0 d0 d1 cA d4 f4 hzv
    generalize w3.setCell ⟨s, 2, none⟩ (.slice (some ⟨gg, 0, none⟩) (nt + 1) cap) = w4 at HR3 HB4 HO4 HK4 HL4 ⊢
    have z3 : w4.cell? ⟨s, 3, none⟩ = some .nilFunc := (blk_cell HB4.out 3).trans rfl
    have z1 : w4.cell? ⟨z, 1, none⟩ = some (.int .u64 v) := (blk_cell HR3.out 1).trans rfl
    have hneq := neq_nil
    go_wp2
    go_ret
    exact ⟨rfl, w1, _, HT.out, H1.out, ⟨H.out.ge, by simpa using HB4.out, HO4.out⟩, HK4.out, at_of HAT.out (by have h1 := HW2.out; omega), HL4.out⟩


/-- A tape's records as cells. -/
def recs (T : List (Int × Int)) : List Value := T.flatMap fun p => [.int .i64 p.1, .int .u64 p.2]
theorem recs_cons (p : Int × Int) (T : List (Int × Int)) : recs (p :: T) = .int .i64 p.1 :: .int .u64 p.2 :: recs T := rfl
theorem recs_append (T : List (Int × Int)) (a b : Int) : recs (T ++ [(a, b)]) = recs T ++ [.int .i64 a, .int .u64 b] := by simp [recs]
theorem recs_len (T : List (Int × Int)) : (recs T).length = T.length * 2 := by
  induction T with
  | nil => rfl
  | cons p T ih => rw [recs_cons]; simp only [List.length_cons, ih]; omega
theorem recs_get (T : List (Int × Int)) (i : Nat) (h : i < T.length) : (recs T)[i * 2]? = some (.int .i64 (T.getD i (0, 0)).1) ∧ (recs T)[i * 2 + 1]? = some (.int .u64 (T.getD i (0, 0)).2) := by
  induction T generalizing i with
  | nil => simp at h
  | cons p T ih =>
    cases i with
    | zero => exact ⟨rfl, rfl⟩
    | succ i =>
      have := ih i (by simpa using h)
      rw [recs_cons, show (i + 1) * 2 = i * 2 + 1 + 1 by omega]
      simpa using this
theorem recs_one (T : List (Int × Int)) : ∀ u ∈ recs T, u.oneCell' = true := by
  intro u hu
  simp only [recs, List.mem_flatMap] at hu
  obtain ⟨p, _, hu⟩ := hu
  simp only [List.mem_cons, List.not_mem_nil, or_false] at hu
  rcases hu with rfl | rfl <;> rfl

/-- A tape: its records, where it stands. -/
structure Tap (B : Nat) (w : World) (o : Nat) (T : List (Int × Int)) (k : Nat) (vl : Value) : Prop where
  ge : B ≤ o
  blk : w.heap[o]? = some (.cells #[vl, .int .i64 k] 147 (0, 0))
  row : w.ownsRow B 25 2 vl T.length (recs T)
theorem Tap.below {B : Nat} {w w' : World} {o : Nat} {l : List (Int × Int)} {k : Nat} {vl : Value} (h : Tap B w o l k vl) (hb : Below w.heap.size w w') : Tap B w' o l k vl := ⟨h.ge, blk_below h.blk hb, pw_own_below h.row hb⟩
theorem Tap.tame {B : Nat} {w w' : World} {o : Nat} {l : List (Int × Int)} {k : Nat} {vl : Value} (h : Tap B w o l k vl) (ht : Tame w w') : Tap B w' o l k vl := ⟨h.ge, ht _ _ _ h.blk (by decide) (by decide), own_tame h.row ht (by decide) (by decide)⟩
theorem Tap.kept {B : Nat} {w w' : World} {S : Nat → Prop} {o : Nat} {l : List (Int × Int)} {k : Nat} {vl : Value} (h : Tap B w o l k vl) (hk : Kept w w' S) (ho : ¬ S o) (hv : ∀ k, vl.ownBlock = some k → ¬ S k) : Tap B w' o l k vl := ⟨h.ge, blk_kept h.blk hk ho, own_kept h.row hk hv⟩
theorem Tap.lower {B B' : Nat} {w : World} {o : Nat} {l : List (Int × Int)} {k : Nat} {vl : Value} (h : Tap B w o l k vl) (hB : B' ≤ B) : Tap B' w o l k vl := ⟨Nat.le_trans hB h.ge, h.blk, own_weaken h.row hB⟩
theorem Tap.next {B : Nat} {w : World} {o : Nat} {l : List (Int × Int)} {k : Nat} {vl : Value} (h : Tap B w o l k vl) : Tap B (w.setCell ⟨o, 1, .none⟩ (.int .i64 ((k : Int) + 1))) o l (k + 1) vl :=
  ⟨h.ge, by simpa using blk_set h.blk 1 (.int .i64 ((k : Int) + 1)), own_setCell h.row (own_ne h.row h.blk (by decide)) _⟩
theorem Tap.at_ {B : Nat} {w : World} {o : Nat} {l : List (Int × Int)} {k : Nat} {vl : Value} (h : Tap B w o l k vl) (hk : k < l.length) : ∃ g c, vl = .slice (some ⟨g, 0, none⟩) l.length c ∧
    w.cell? ⟨g, k * 2, none⟩ = some (.int .i64 (l.getD k (0, 0)).1) ∧ w.cell? ⟨g, k * 2 + 1, none⟩ = some (.int .u64 (l.getD k (0, 0)).2) := by
  obtain ⟨hl, h2⟩ := h.row
  rcases h2 with ⟨_, h0⟩ | ⟨gr, cap, cur, rfl, hb, hh, hc, hm, hs, ht⟩
  · omega
  · have key : ∀ j u, j < l.length * 2 → (recs l)[j]? = some u → w.cell? ⟨gr, j, none⟩ = some u := fun j u hj hu => by
      rw [blk_cell hh j]
      rw [← ht, List.getElem?_take_of_lt hj, Array.getElem?_toList] at hu
      exact hu
    have hg := recs_get l k hk
    exact ⟨gr, cap, rfl, key _ _ (by omega) hg.1, key _ _ (by omega) hg.2⟩

theorem callFunc63 (caps : Array Value) (W : World) : (callFunc 63 caps).run Try.prog W = .ok (.enter 63 caps) W := by kernel_rfl
theorem callFunc64 (caps : Array Value) (W : World) : (callFunc 64 caps).run Try.prog W = .ok (.enter 64 caps) W := by kernel_rfl

set_option maxHeartbeats 1000000 in
theorem trest_calls (B o : Nat) (l : List (Int × Int)) (k : Nat) (vl : Value) (w : World) (h : Tap B w o l k vl) (hk : k ≤ l.length) (hl : l.length ≤ 1000) : Calls Try.prog 64 #[.pointer (some ⟨o, 0, none⟩)] w fun e w' =>
    e = .returned (.int .i64 ((l.length : Int) - k)) ∧ ∃ n, w' = w.drewN n := by
  obtain ⟨hg, hb, ho⟩ := h
  obtain ⟨A1, c1, rfl⟩ := own_slice ho
  have k0 : w.cell? ⟨o, 0, none⟩ = some (.slice A1 l.length c1) := (blk_cell hb 0).trans rfl
  have k1 : w.cell? ⟨o, 1, none⟩ = some (.int .i64 k) := (blk_cell hb 1).trans rfl
  have e1 : IntKind.i64.wrap ((l.length : Int) - k) = (l.length : Int) - k := by rw [IntKind.wrap_i64]; omega
  clear hb ho
  go_enter Try.func64, Try.ntmps64
  go_wp2
  go_quiet (fail)
  go_wp2
  go_ret
  exact ⟨rfl, nq, rfl⟩

theorem tleft_calls (B s o : Nat) (l : List (Int × Int)) (k : Nat) (vl vt : Value) (nt : Nat) (rs : List Value) (see : Value) (m : Int) (w : World) (hO : Tap B w o l k vl) (hS : Srce B w s 63 64 o vt nt rs see) (hk : k ≤ l.length) (hl : l.length ≤ 1000) (hm : (l.length : Int) - k = m) :
    Calls Try.prog 22 #[.pointer (some ⟨s, 0, none⟩)] w fun e w' => e = .returned (.int .i64 m) ∧ ∃ n, w' = w.drewN n := by
  subst hm
  exact left_calls B s 64 o 63 vt nt rs see _ w hS callFunc64 (trest_calls B o l k vl w hO hk hl)

set_option maxHeartbeats 1000000 in
theorem tdraw_dry (B o : Nat) (l : List (Int × Int)) (vl : Value) (kind n : Int) (w : World) (h : Tap B w o l l.length vl) : Calls Try.prog 63 #[.pointer (some ⟨o, 0, none⟩), .int .i64 kind, .int .i64 n] w fun e w' =>
    e = .panicked [{ v := dryV, recovered := false }] ∧ ∃ m, w' = w.drewN m := by
  obtain ⟨A1, c1, rfl⟩ := own_slice h.row
  have k0 : w.cell? ⟨o, 0, none⟩ = some (.slice A1 l.length c1) := (blk_cell h.blk 0).trans rfl
  have k1 : w.cell? ⟨o, 1, none⟩ = some (.int .i64 l.length) := (blk_cell h.blk 1).trans rfl
  clear h
  go_enter Try.func63, Try.ntmps63
  go_wp2
  go_quiet (fail)
  go_wp2
  exact ⟨rfl, rfl, nq, rfl⟩

set_option maxHeartbeats 2000000 in
set_option maxRecDepth 100000 in
theorem tdraw_ok (B o : Nat) (l : List (Int × Int)) (k : Nat) (vl : Value) (kind n v : Int) (w : World) (h : Tap B w o l k vl) (hB : B ≤ w.heap.size) (hk : k < l.length) (hl : l.length ≤ 1000) (hx : l.getD k (0, 0) = (kind, v)) (hn : v < n) (hn0 : 0 ≤ n) (hn2 : n ≤ 9223372036854775807) : Calls Try.prog 63 #[.pointer (some ⟨o, 0, none⟩), .int .i64 kind, .int .i64 n] w fun e w' =>
    e = .returned (.int .u64 v) ∧ Reach o w w' ∧ Tap B w' o l (k + 1) vl := by
  have H := Aside0.mk h
  obtain ⟨g, c, rfl, x0, x1⟩ := h.at_ hk
  rw [hx] at x0 x1
  have k0 : w.cell? ⟨o, 0, none⟩ = some (.slice (some ⟨g, 0, none⟩) l.length c) := (blk_cell h.blk 0).trans rfl
  have k1 : w.cell? ⟨o, 1, none⟩ = some (.int .i64 k) := (blk_cell h.blk 1).trans rfl
  have q1 : decide ((l.length : Int) ≤ (k : Int)) = false := decide_eq_false (by omega)
  have q2 : decide (n ≤ v) = false := decide_eq_false (by omega)
  have b0 : (k : Int) < (l.length : Int) := by omega
  have b1 : (0 : Int) ≤ (k : Int) := by omega
  have e2 : IntKind.u64.wrap n = n := by rw [IntKind.wrap_u64]; omega
  have e3 : IntKind.i64.wrap ((k : Int) + 1) = (k : Int) + 1 := by rw [IntKind.wrap_i64]; omega
  have e4 : wrap64 ((k : Int) + 1) = (k : Int) + 1 := by unfold wrap64; omega
  have HB := Aside0.mk hB
  clear h hx hn hB
  go_enter Try.func63, Try.ntmps63
  go_wp2
  go_quiet (fail)
  go_wp2
  have HT := Aside0.mk ((Reach.refl o w).drewN nq)
  have HN := Aside0.mk (show Tap B (w.drewN nq) o l k (.slice (some ⟨g, 0, none⟩) l.length c) from ⟨H.out.ge, H.out.blk, H.out.row⟩)
  replace x0 : (w.drewN nq).cell? ⟨g, k * 2, none⟩ = some (.int .i64 kind) := x0
  replace x1 : (w.drewN nq).cell? ⟨g, k * 2 + 1, none⟩ = some (.int .u64 v) := x1
  replace k0 : (w.drewN nq).cell? ⟨o, 0, none⟩ = some (.slice (some ⟨g, 0, none⟩) l.length c) := k0
  replace k1 : (w.drewN nq).cell? ⟨o, 1, none⟩ = some (.int .i64 k) := k1
  have HS := Aside0.mk (show w.heap.size ≤ (w.drewN nq).heap.size from Nat.le_refl _)
  generalize w.drewN nq = w1 at HT HN x0 x1 k0 k1 HS ⊢
  have x0A := some_alloc x0 (.cells #[.int .i64 0, .int .u64 0] 25)
  have x1A := some_alloc x1 (.cells #[.int .i64 0, .int .u64 0] 25)
  have k0A := some_alloc k0 (.cells #[.int .i64 0, .int .u64 0] 25)
  have k1A := some_alloc k1 (.cells #[.int .i64 0, .int .u64 0] 25)
  go_region_law (fail)
  all_goals
    change Exit.then _ _ _ _ (w1.alloc (.cells #[.int .i64 kind, .int .u64 v] 25)).drew
    clear x0 x1 k0 k1 x0A x1A k0A k1A
    have HT2 := Aside0.mk ((HT.out.step (below_alloc (Below.refl _ _) (.cells #[.int .i64 kind, .int .u64 v] 25))).drew)
    have HN2 := Aside0.mk (show Tap B (w1.alloc (.cells #[.int .i64 kind, .int .u64 v] 25)).drew o l k (.slice (some ⟨g, 0, none⟩) l.length c) from HN.out.below (below_alloc (Below.refl _ _) _).drew)
    have HZ := Aside0.mk (blk_drew (blk_new w1 (.cells #[.int .i64 kind, .int .u64 v] 25)))
    have hzo : w1.heap.size ≠ o := by have := blk_lt HN.out.blk; omega
    generalize w1.heap.size = z at HZ hzo ⊢
    generalize (w1.alloc (.cells #[.int .i64 kind, .int .u64 v] 25)).drew = w2 at HT2 HN2 HZ ⊢
    have n0 : w2.cell? ⟨z, 0, none⟩ = some (.int .i64 kind) := (blk_cell HZ.out 0).trans rfl
    have n1 : w2.cell? ⟨z, 1, none⟩ = some (.int .u64 v) := (blk_cell HZ.out 1).trans rfl
    have k1 : w2.cell? ⟨o, 1, none⟩ = some (.int .i64 k) := (blk_cell HN2.out.blk 1).trans rfl
    have f1 := blk_frozen HN2.out.blk 1
    clear HT HN HS
    go_wp2
    go_ret
    exact ⟨rfl, HT2.out.set 1 _, HN2.out.next⟩

set_option maxHeartbeats 1000000 in
theorem tdraw21_ok (B s o : Nat) (l : List (Int × Int)) (k : Nat) (vl vt : Value) (nt : Nat) (rs : List Value) (kind n m v : Int) (w : World) (hO : Tap B w o l k vl) (hS : Srce B w s 63 64 o vt nt rs .nilFunc) (hne : NeRow vl vt) (hB : B ≤ w.heap.size)
    (hk : k < l.length) (hm : (if n < 1 then 1 else n) = m) (hm2 : m ≤ 9223372036854775807) (hl : l.length ≤ 1000) (hx : l.getD k (0, 0) = (kind, v)) (hv0 : 0 ≤ v) (hv1 : v < m) (hnt : nt ≤ 1000) :
    Calls Try.prog 21 #[.pointer (some ⟨s, 0, none⟩), .int .i64 kind, .int .i64 n] w fun e w' =>
      e = .returned (.tuple #[.int .i64 (v), .int .i64 0, .agg zU]) ∧ ∃ vt', Tap B w' o l (k + 1) vl ∧ Srce B w' s 63 64 o vt' (nt + 1) (rs ++ [.int .i64 kind, .int .u64 (v)]) .nilFunc ∧ NeRow vl vt' ∧ Kept w w' (fun k => k = o ∨ k = s ∨ vt.ownBlock = some k) ∧ Below B w w' := by
  have hm1 : 1 ≤ m := by rw [← hm]; split <;> omega
  have hn1 := dW_size w s kind n
  have hoW := blk_lt hO.blk
  have hsW := blk_lt hS.blk
  have hvW : ∀ k, vt.ownBlock = some k → k < w.heap.size := own_lt hS.row
  have hlW : ∀ k, vl.ownBlock = some k → k < w.heap.size := own_lt hO.row
  -- the run inside the guard
  have hrun : ∀ W, Below (dW w s kind n).heap.size (dW w s kind n) W → Calls Try.prog 61 (dCaps w) W fun e w' => e = .returned (.tuple #[]) ∧ Since (dW w s kind n).heap.size W w' ∧
      (∃ vt', Tap B w' o l (k + 1) vl ∧ Srce B w' s 63 64 o vt' (nt + 1) (rs ++ [.int .i64 kind, .int .u64 v]) .nilFunc ∧ NeRow vl vt' ∧ Kept w w' (fun k => k = o ∨ k = s ∨ vt.ownBlock = some k) ∧ Below B (dW w s kind n) w' ∧ w'.heap[w.heap.size + 1 + 1 + 1]? = some (.cells zU 27 (0, 0)) ∧ w'.heap[w.heap.size + 1 + 1 + 1 + 1]? = some (.cells #[.int .i64 v] 3 (0, 0))) := by
    intro W hW
    have hwW : Below w.heap.size w W := (dW_below w s kind n).trans (hW.mono (dW_below w s kind n).size)
    have hO1 : Tap B W o l k vl := hO.below hwW
    have hS1 : Srce B W s 63 64 o vt nt rs .nilFunc := hS.below hwW
    have a0 := blk_below (dW_0 w s kind n) hW
    have a1 := blk_below (dW_1 w s kind n) hW
    have a2 := blk_below (dW_2 w s kind n) hW
    have a3 := blk_below (dW_3 w s kind n) hW
    have a4 := blk_below (dW_4 w s kind n) hW
    have hd := draw_reach B s 63 64 o vt nt rs kind n m v W (fun w1 => Tap B w1 o l (k + 1) vl) hS1 (ne_of_types hS1.blk hO1.blk (by decide)) (Ne.symm (own_ne hS1.row hO1.blk (by decide))) callFunc63 hm hv0 (by omega) hnt (Nat.le_trans hB hwW.size)
      (tdraw_ok B o l k vl kind m v W hO1 (Nat.le_trans hB hwW.size) hk hl hx hv1 (by omega) hm2)
    have hr := run_ok s w.heap.size (w.heap.size + 1) (w.heap.size + 1 + 1) (w.heap.size + 1 + 1 + 1 + 1) kind n v 0 W (fun w' => ∃ vt', Tap B w' o l (k + 1) vl ∧ Srce B w' s 63 64 o vt' (nt + 1) (rs ++ [.int .i64 kind, .int .u64 v]) .nilFunc ∧ NeRow vl vt' ∧ Kept W w' (fun k => k = o ∨ k = s ∨ vt.ownBlock = some k) ∧ Below B W w' ∧ Since (dW w s kind n).heap.size W w' ∧ w'.heap[w.heap.size + 1 + 1 + 1]? = some (.cells zU 27 (0, 0))) a0 a1 a2
      (hd.mono fun e w' ⟨h1, w1, vt', ht, hO2, hS2, hk2, hat, hb2⟩ => by
        have hvtne : ∀ (g : Nat) (cs : Array Value) (t : TypeId), W.heap[g]? = some (Obj.cells cs t (0, 0)) → t ≠ 25 → vt.ownBlock ≠ some g := fun g cs t hg ht => Ne.symm (own_ne hS1.row hg (Ne.symm ht))
        have hs1 : w1.heap[s]? = _ := blk_reach hS1.blk hO1.blk (by decide) ht
        have keep : ∀ (g : Nat) (cs : Array Value) (t : TypeId), W.heap[g]? = some (Obj.cells cs t (0, 0)) → t ≠ 147 → t ≠ 144 → t ≠ 25 → w'.heap[g]? = some (Obj.cells cs t (0, 0)) := fun g cs t hg h141 h144 h25 =>
          blk_kept (blk_reach hg hO1.blk h141 ht) hk2 (fun hh => hh.elim (ne_of_types hg hS1.blk h144) (fun h => hvtne g cs t hg h25 h))
        refine ⟨h1, ⟨vt', hO2.kept hk2 ?_ ?_, hS2, ?_, (kept_reach ht).then_ hk2 (fun k hk => .inl (.inr hk)), (ht.below hO1.ge (Nat.le_trans hB hwW.size)).trans hb2, ⟨Nat.le_trans ht.size hk2.1, fun i hi hlt => ?_⟩, keep _ _ _ a3 (by decide) (by decide) (by decide)⟩, keep _ _ _ a4 (by decide) (by decide) (by decide)⟩
        · rintro (h | h)
          · exact ne_of_types hO1.blk hS1.blk (by decide) h
          · exact hvtne o _ _ hO1.blk (by decide) h
        · intro g hg hh
          have hgl := hlW g hg
          rcases hh with h | h
          · subst h; exact (own_ne hO1.row hS1.blk (by decide)) hg.symm
          · exact hne g hg h
        · intro g hg hh
          have hgl := hlW g hg
          rcases hat g hh with h | h
          · exact hne g hg h
          · have h1 := ht.size; have h2 := hwW.size; omega
        · refine (hk2.2 i (Nat.lt_of_lt_of_le hlt ht.size) ?_).trans (ht.block i (by omega) hlt)
          rintro (h | h)
          · omega
          · have := hvW i h; omega)
    refine hr.mono fun e w' ⟨h1, w1, ⟨vt', hO2, hS2, hn2, hk3, hb2, hs2, h3⟩, h4, hw⟩ => ⟨h1, ?_, vt', ?_⟩
    · rw [hw]
      exact ⟨Nat.le_trans hs2.1 (by simp [World.setCell]), fun i hi hlt => (Below.heap_setCell w1 _ _ i (by simp; omega)).trans (hs2.2 i hi hlt)⟩
    · have ht : Tame w1 w' := by rw [hw]; exact (Tame.refl w1).set h4 (.inl rfl) 0 _
      refine ⟨hO2.tame ht, hS2.tame ht, hn2, ?_, ?_, ?_, ?_⟩
      · rw [hw]
        exact ((Kept.of_below hwW _).then_ hk3 (fun k hk => .inl hk)).setCell (.inr (by simp; omega)) _
      · rw [hw]
        exact ((hW.mono (Nat.le_trans hB (dW_below w s kind n).size)).trans hb2).setCell (by simp; omega) _
      · rw [hw]; exact blk_far h3 (by simp) _
      · rw [hw]; simpa using blk_set h4 0 (.int .i64 v)
  have hg := guard_well 61 (dCaps w) (callFunc61 _) (dW w s kind n) _ hrun
  have hd := draw21 s kind n v 0 0 0 0 0 0 w (fun w' => ∃ vt', Tap B w' o l (k + 1) vl ∧ Srce B w' s 63 64 o vt' (nt + 1) (rs ++ [.int .i64 kind, .int .u64 v]) .nilFunc ∧ NeRow vl vt' ∧ Kept w w' (fun k => k = o ∨ k = s ∨ vt.ownBlock = some k) ∧ Below B (dW w s kind n) w')
    (hg.mono fun e w' ⟨h1, w1, ⟨vt', hO2, hS2, hn2, hk3, hb2, h3, h4⟩, ht, hb⟩ => ⟨h1, ⟨vt', hO2.tame ht, hS2.tame ht, hn2, hk3.then_ (kept_since hb) (fun k hk => .inr (by omega)), hb2.trans (hb.mono (Nat.le_trans hB (dW_below w s kind n).size))⟩, (hb.block _ (by omega)).trans h3, (hb.block _ (by omega)).trans h4⟩)
  exact hd.mono fun e w' ⟨h1, w1, ⟨vt', hO2, hS2, hn2, hk3, hb2⟩, ht, hb⟩ => ⟨h1, vt', hO2.tame ht, hS2.tame ht, hn2, hk3.then_ (kept_since hb) (fun k hk => .inr hk), (((dW_below w s kind n).mono hB).trans hb2).trans (hb.mono hB)⟩


set_option maxHeartbeats 1000000 in
theorem odraw21_k (B s o : Nat) (l : List Int) (k : Nat) (vl vt : Value) (nt : Nat) (rs : List Value) (kind n m v : Int) (w : World) (hO : Orc B w o l k vl) (hS : Srce B w s 59 60 o vt nt rs .nilFunc) (hne : NeRow vl vt) (hB : B ≤ w.heap.size)
    (hk : k < l.length) (hm : (if n < 1 then 1 else n) = m) (hm2 : m ≤ 9223372036854775807) (hx : 0 ≤ rd l k) (hv : rd l k % m = v) (hv0 : 0 ≤ v) (hv1 : v < m) (hnt : nt ≤ 1000) :
    Calls Try.prog 21 #[.pointer (some ⟨s, 0, none⟩), .int .i64 kind, .int .i64 n] w fun e w' =>
      e = .returned (.tuple #[.int .i64 (v), .int .i64 0, .agg zU]) ∧ ∃ vt', Orc B w' o l (k + 1) vl ∧ Srce B w' s 59 60 o vt' (nt + 1) (rs ++ [.int .i64 kind, .int .u64 (v)]) .nilFunc ∧ NeRow vl vt' ∧ Kept w w' (fun k => k = o ∨ k = s ∨ vt.ownBlock = some k) ∧ Below B w w' := by
  have hm1 : 1 ≤ m := by rw [← hm]; split <;> omega
  have hn1 := dW_size w s kind n
  have hoW := blk_lt hO.blk
  have hsW := blk_lt hS.blk
  have hvW : ∀ k, vt.ownBlock = some k → k < w.heap.size := own_lt hS.row
  have hlW : ∀ k, vl.ownBlock = some k → k < w.heap.size := own_lt hO.row
  -- the run inside the guard
  have hrun : ∀ W, Below (dW w s kind n).heap.size (dW w s kind n) W → Calls Try.prog 61 (dCaps w) W fun e w' => e = .returned (.tuple #[]) ∧ Since (dW w s kind n).heap.size W w' ∧
      (∃ vt', Orc B w' o l (k + 1) vl ∧ Srce B w' s 59 60 o vt' (nt + 1) (rs ++ [.int .i64 kind, .int .u64 v]) .nilFunc ∧ NeRow vl vt' ∧ Kept w w' (fun k => k = o ∨ k = s ∨ vt.ownBlock = some k) ∧ Below B (dW w s kind n) w' ∧ w'.heap[w.heap.size + 1 + 1 + 1]? = some (.cells zU 27 (0, 0)) ∧ w'.heap[w.heap.size + 1 + 1 + 1 + 1]? = some (.cells #[.int .i64 v] 3 (0, 0))) := by
    intro W hW
    have hwW : Below w.heap.size w W := (dW_below w s kind n).trans (hW.mono (dW_below w s kind n).size)
    have hO1 : Orc B W o l k vl := hO.below hwW
    have hS1 : Srce B W s 59 60 o vt nt rs .nilFunc := hS.below hwW
    have a0 := blk_below (dW_0 w s kind n) hW
    have a1 := blk_below (dW_1 w s kind n) hW
    have a2 := blk_below (dW_2 w s kind n) hW
    have a3 := blk_below (dW_3 w s kind n) hW
    have a4 := blk_below (dW_4 w s kind n) hW
    have hd := draw_reach B s 59 60 o vt nt rs kind n m v W (fun w1 => Orc B w1 o l (k + 1) vl) hS1 (ne_of_types hS1.blk hO1.blk (by decide)) (Ne.symm (own_ne hS1.row hO1.blk (by decide))) callFunc59 hm hv0 (by omega) hnt (Nat.le_trans hB hwW.size)
      ((hv ▸ odraw_ok B o l k vl kind m W hO1 hk hm1 hm2 hx).mono fun e w' h => ⟨h.1, h.2.1.reach, h.2.2⟩)
    have hr := run_ok s w.heap.size (w.heap.size + 1) (w.heap.size + 1 + 1) (w.heap.size + 1 + 1 + 1 + 1) kind n v 0 W (fun w' => ∃ vt', Orc B w' o l (k + 1) vl ∧ Srce B w' s 59 60 o vt' (nt + 1) (rs ++ [.int .i64 kind, .int .u64 v]) .nilFunc ∧ NeRow vl vt' ∧ Kept W w' (fun k => k = o ∨ k = s ∨ vt.ownBlock = some k) ∧ Below B W w' ∧ Since (dW w s kind n).heap.size W w' ∧ w'.heap[w.heap.size + 1 + 1 + 1]? = some (.cells zU 27 (0, 0))) a0 a1 a2
      (hd.mono fun e w' ⟨h1, w1, vt', ht, hO2, hS2, hk2, hat, hb2⟩ => by
        have hvtne : ∀ (g : Nat) (cs : Array Value) (t : TypeId), W.heap[g]? = some (Obj.cells cs t (0, 0)) → t ≠ 25 → vt.ownBlock ≠ some g := fun g cs t hg ht => Ne.symm (own_ne hS1.row hg (Ne.symm ht))
        have hs1 : w1.heap[s]? = _ := blk_reach hS1.blk hO1.blk (by decide) ht
        have keep : ∀ (g : Nat) (cs : Array Value) (t : TypeId), W.heap[g]? = some (Obj.cells cs t (0, 0)) → t ≠ 141 → t ≠ 144 → t ≠ 25 → w'.heap[g]? = some (Obj.cells cs t (0, 0)) := fun g cs t hg h141 h144 h25 =>
          blk_kept (blk_reach hg hO1.blk h141 ht) hk2 (fun hh => hh.elim (ne_of_types hg hS1.blk h144) (fun h => hvtne g cs t hg h25 h))
        refine ⟨h1, ⟨vt', hO2.kept hk2 ?_ ?_, hS2, ?_, (kept_reach ht).then_ hk2 (fun k hk => .inl (.inr hk)), (ht.below hO1.ge (Nat.le_trans hB hwW.size)).trans hb2, ⟨Nat.le_trans ht.size hk2.1, fun i hi hlt => ?_⟩, keep _ _ _ a3 (by decide) (by decide) (by decide)⟩, keep _ _ _ a4 (by decide) (by decide) (by decide)⟩
        · rintro (h | h)
          · exact ne_of_types hO1.blk hS1.blk (by decide) h
          · exact hvtne o _ _ hO1.blk (by decide) h
        · intro g hg hh
          have hgl := hlW g hg
          rcases hh with h | h
          · subst h; exact (own_ne hO1.row hS1.blk (by decide)) hg.symm
          · exact hne g hg h
        · intro g hg hh
          have hgl := hlW g hg
          rcases hat g hh with h | h
          · exact hne g hg h
          · have h1 := ht.size; have h2 := hwW.size; omega
        · refine (hk2.2 i (Nat.lt_of_lt_of_le hlt ht.size) ?_).trans (ht.block i (by omega) hlt)
          rintro (h | h)
          · omega
          · have := hvW i h; omega)
    refine hr.mono fun e w' ⟨h1, w1, ⟨vt', hO2, hS2, hn2, hk3, hb2, hs2, h3⟩, h4, hw⟩ => ⟨h1, ?_, vt', ?_⟩
    · rw [hw]
      exact ⟨Nat.le_trans hs2.1 (by simp [World.setCell]), fun i hi hlt => (Below.heap_setCell w1 _ _ i (by simp; omega)).trans (hs2.2 i hi hlt)⟩
    · have ht : Tame w1 w' := by rw [hw]; exact (Tame.refl w1).set h4 (.inl rfl) 0 _
      refine ⟨hO2.tame ht, hS2.tame ht, hn2, ?_, ?_, ?_, ?_⟩
      · rw [hw]
        exact ((Kept.of_below hwW _).then_ hk3 (fun k hk => .inl hk)).setCell (.inr (by simp; omega)) _
      · rw [hw]
        exact ((hW.mono (Nat.le_trans hB (dW_below w s kind n).size)).trans hb2).setCell (by simp; omega) _
      · rw [hw]; exact blk_far h3 (by simp) _
      · rw [hw]; simpa using blk_set h4 0 (.int .i64 v)
  have hg := guard_well 61 (dCaps w) (callFunc61 _) (dW w s kind n) _ hrun
  have hd := draw21 s kind n v 0 0 0 0 0 0 w (fun w' => ∃ vt', Orc B w' o l (k + 1) vl ∧ Srce B w' s 59 60 o vt' (nt + 1) (rs ++ [.int .i64 kind, .int .u64 v]) .nilFunc ∧ NeRow vl vt' ∧ Kept w w' (fun k => k = o ∨ k = s ∨ vt.ownBlock = some k) ∧ Below B (dW w s kind n) w')
    (hg.mono fun e w' ⟨h1, w1, ⟨vt', hO2, hS2, hn2, hk3, hb2, h3, h4⟩, ht, hb⟩ => ⟨h1, ⟨vt', hO2.tame ht, hS2.tame ht, hn2, hk3.then_ (kept_since hb) (fun k hk => .inr (by omega)), hb2.trans (hb.mono (Nat.le_trans hB (dW_below w s kind n).size))⟩, (hb.block _ (by omega)).trans h3, (hb.block _ (by omega)).trans h4⟩)
  exact hd.mono fun e w' ⟨h1, w1, ⟨vt', hO2, hS2, hn2, hk3, hb2⟩, ht, hb⟩ => ⟨h1, vt', hO2.tame ht, hS2.tame ht, hn2, hk3.then_ (kept_since hb) (fun k hk => .inr hk), (((dW_below w s kind n).mono hB).trans hb2).trans (hb.mono hB)⟩


set_option maxHeartbeats 1000000 in
theorem tdraw21_dry (B s o : Nat) (l : List (Int × Int)) (vl vt : Value) (nt : Nat) (rs : List Value) (kind n : Int) (see : Value) (w : World) (hO : Tap B w o l l.length vl) (hS : Srce B w s 63 64 o vt nt rs see) (hB : B ≤ w.heap.size) :
    Calls Try.prog 21 #[.pointer (some ⟨s, 0, none⟩), .int .i64 kind, .int .i64 n] w fun e w' =>
      e = .returned (.tuple #[.int .i64 0, .int .i64 1, .agg zU]) ∧ Tap B w' o l l.length vl ∧ Srce B w' s 63 64 o vt nt rs see ∧ Below B w w' := by
  have hn1 := dW_size w s kind n
  have hrun : ∀ W, Below (dW w s kind n).heap.size (dW w s kind n) W → Calls Try.prog 61 (dCaps w) W fun e w' => e = .panicked [{ v := .iface 168 (.agg #[]), recovered := false }] ∧ Since (dW w s kind n).heap.size W w' ∧
      (Tap B w' o l l.length vl ∧ Srce B w' s 63 64 o vt nt rs see ∧ Below B (dW w s kind n) w' ∧ w'.heap[w.heap.size + 1 + 1 + 1]? = some (.cells zU 27 (0, 0)) ∧ w'.heap[w.heap.size + 1 + 1 + 1 + 1]? = some (.cells #[.int .i64 0] 3 (0, 0))) := by
    intro W hW
    have hwW : Below w.heap.size w W := (dW_below w s kind n).trans (hW.mono (dW_below w s kind n).size)
    have hO1 : Tap B W o l l.length vl := hO.below hwW
    have hS1 : Srce B W s 63 64 o vt nt rs see := hS.below hwW
    have a0 := blk_below (dW_0 w s kind n) hW
    have a1 := blk_below (dW_1 w s kind n) hW
    have a2 := blk_below (dW_2 w s kind n) hW
    have a3 := blk_below (dW_3 w s kind n) hW
    have a4 := blk_below (dW_4 w s kind n) hW
    have hd := draw_panics B s 63 64 o vt nt rs kind n _ dryV see W (fun w' => ∃ m, w' = W.drewN m) hS1 callFunc63 rfl (tdraw_dry B o l vl kind _ W hO1)
    have hr := run_panics s w.heap.size (w.heap.size + 1) (w.heap.size + 1 + 1) (w.heap.size + 1 + 1 + 1 + 1) kind n dryV W _ a0 a1 a2 hd
    refine hr.mono fun e w' ⟨h1, m, hw⟩ => ⟨h1, ?_⟩
    subst hw
    exact ⟨⟨Nat.le_refl _, fun _ _ _ => rfl⟩, ⟨hO1.ge, hO1.blk, hO1.row⟩, ⟨hS1.ge, hS1.blk, hS1.row⟩, pw_below_drewN (hW.mono (Nat.le_trans hB (dW_below w s kind n).size)) m, a3, a4⟩
  have hg := guard_dry 61 (dCaps w) (callFunc61 _) (dW w s kind n) _ hrun
  have hd := draw21 s kind n 0 1 0 0 0 0 0 w (fun w' => Tap B w' o l l.length vl ∧ Srce B w' s 63 64 o vt nt rs see ∧ Below B (dW w s kind n) w')
    (hg.mono fun e w' ⟨h1, w1, ⟨hO2, hS2, hb2, h3, h4⟩, ht, hb⟩ => ⟨h1, ⟨hO2.tame ht, hS2.tame ht, hb2.trans (hb.mono (Nat.le_trans hB (dW_below w s kind n).size))⟩, (hb.block _ (by omega)).trans h3, (hb.block _ (by omega)).trans h4⟩)
  exact hd.mono fun e w' ⟨h1, w1, ⟨hO2, hS2, hb2⟩, ht, hb⟩ => ⟨h1, hO2.tame ht, hS2.tame ht, (((dW_below w s kind n).mono hB).trans hb2).trans (hb.mono hB)⟩
end Go.Proofs.Ythlllcmffgdcmab.Src

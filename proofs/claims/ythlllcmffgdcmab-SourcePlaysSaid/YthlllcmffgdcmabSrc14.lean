import Derived.Test.YthlllcmffgdcmabSrc10
namespace Go.Proofs.Ythlllcmffgdcmab.Src
open Go.RowKit Go.Proofs.YthlllcmffgdcmabW.PrintWords Go.Proofs.YthlllcmffgdcmabW.PrintLast Go.Proofs.YthlllcmffgdcmabW.PrintMore
attribute [local go_sem] max2_int min2_int max_two min_two
set_option linter.unusedVariables false
set_option linter.unusedSimpArgs false

theorem info57 : (Try.prog.info? 57).map (fun i => (i.zero, i.size, i.bytes)) = some (some (.agg #[.int .i64 0, .int .u64 0]), 2, 16) := by kernel_rfl

theorem results_ctt {P : Program} {fn : Func} {p u v : Tmp} {ty : TypeId} (h : fn.results = #[.cell p ty, .tmp u, .tmp v]) (tmps : Array Value) (w : World) (g : Nat) (t : TypeId) (cs : Array Value) (fr : Nat × Nat) (d : TypeDesc)
    (hp : tmps.getD p undef = .pointer (some ⟨g, 0, none⟩)) (hg : w.heap[g]? = some (.cells cs t fr))
    (hu : P.underlying ty = some d) (hd : (match d with | .struct _ | .array _ _ => true | _ => false) = true) (hi : (P.info? ty).map (·.size) = some cs.size) :
    (results fn tmps).run P w = .ok (.tuple #[.agg cs, tmps.getD u undef, tmps.getD v undef]) w := by
  have hp' : tmps[p]?.getD undef = .pointer (some ⟨g, 0, none⟩) := by simpa using hp
  simp [results, h, hp', asAddr, run_loadVar_row w g t ty cs fr d hg hu hd hi]

theorem add_one (ad : Addr) (j : Nat) : ({ block := ad.block, off := ad.off + 1 } : Addr).add j = ad.add (j + 1) := by
  unfold Addr.add
  rcases Nat.eq_zero_or_pos j with rfl | h
  · simp
  · rw [if_neg (by omega), if_neg (by omega)]
    simp
    omega
theorem reads_tail {w : World} {ad : Addr} {c0 : Nat} {l : List Int} {sl : Option Addr} (h : ReadsInt w .u64 (some ad) l.length l) (hc : l.length ≤ c0) (hs : (if c0 = 1 then some ad else some ({ block := ad.block, off := ad.off + 1 } : Addr)) = sl) : ReadsInt w .u64 sl (l.length - 1) l.tail := by
  refine ⟨by simp, by have := h.2.1; omega, fun h0 => ?_⟩
  rw [if_neg (by omega)] at hs
  obtain ⟨ad', e, hcell⟩ := h.2.2 (by omega)
  injection e with e
  subst e
  refine ⟨_, hs.symm, fun j hj => ?_⟩
  rw [add_one, hcell (j + 1) (by omega)]
  congr 2
  rcases l with _ | ⟨x, l⟩
  · simp at hj
  · simp
def zS : Array Value := #[.slice none 0 0, .slice none 0 0, .bool false, .bool false, .slice none 0 0]
theorem set5_50 {w : World} {n : Nat} {a b c d e : Value} (h : w.heap[n]? = some (.cells zS 50 (0, 0))) : (set5 w n a b c d e).heap[n]? = some (.cells #[a, b, c, d, e] 50 (0, 0)) := by
  have := blk_set (blk_set (blk_set (blk_set (blk_set h 0 a) 1 b) 2 c) 3 d) 4 e
  simpa [zS, set5] using this
theorem set5_own {w : World} {n B size m : Nat} {t : TypeId} {v : Value} {xs : List Value} {cs : Array Value} {a b c d e : Value} (h : w.ownsRow B t size v m xs) (hz : w.heap[n]? = some (.cells cs 50 (0, 0))) (ht : t ≠ 50) : (set5 w n a b c d e).ownsRow B t size v m xs :=
  own_kept h (S := fun k => k = n) (((((Kept.refl w (fun k => k = n)).setCell (p := ⟨n, 0, none⟩) (.inl rfl) a).setCell (p := ⟨n, 1, none⟩) (.inl rfl) b).setCell (p := ⟨n, 2, none⟩) (.inl rfl) c).setCell (p := ⟨n, 3, none⟩) (.inl rfl) d |>.setCell (p := ⟨n, 4, none⟩) (.inl rfl) e) (fun k hk hh => by subst hh; exact own_ne h hz ht hk.symm)

/-- Where a row's rest begins. -/
def tlA (A : Option Addr) (c k : Nat) : Option Addr := if c = 1 then A else A.map fun ad => { block := ad.block, off := ad.off + k }

/-- A row of decisions that is read. -/
def Decs (w : World) (A : Option Addr) (T : List (Int × Int)) : Prop := ∀ i, i < T.length → ∃ ad, A = some ad ∧ w.cell? (ad.add (i * 2)) = some (.int .i64 (T.getD i (0, 0)).1) ∧ w.cell? (ad.add (i * 2 + 1)) = some (.int .u64 (T.getD i (0, 0)).2)
theorem Decs.below {w w' : World} {A : Option Addr} {T : List (Int × Int)} (h : Decs w A T) (hb : Below w.heap.size w w') : Decs w' A T := fun i hi => by
  obtain ⟨ad, e, h1, h2⟩ := h i hi
  exact ⟨ad, e, pw_cell_below hb h1, pw_cell_below hb h2⟩
theorem add_two (ad : Addr) (j : Nat) : ({ block := ad.block, off := ad.off + 2 } : Addr).add j = ad.add (j + 2) := by
  unfold Addr.add
  rcases Nat.eq_zero_or_pos j with rfl | h
  · simp
  · rw [if_neg (by omega), if_neg (by omega)]
    simp
    omega
theorem decs_tail {w : World} {ad : Addr} {c0 : Nat} {T : List (Int × Int)} {sl : Option Addr} (h : Decs w (some ad) T) (hc : T.length ≤ c0) (hs : (if c0 = 1 then some ad else some ({ block := ad.block, off := ad.off + 2 } : Addr)) = sl) : Decs w sl T.tail := fun i hi => by
  have hl : i + 1 < T.length := by simp at hi; omega
  rw [if_neg (by omega)] at hs
  obtain ⟨ad', e, h1, h2⟩ := h (i + 1) hl
  injection e with e
  subst e
  have et : T.tail.getD i (0, 0) = T.getD (i + 1) (0, 0) := by
    rcases T with _ | ⟨x, T⟩
    · simp at hl
    · simp
  refine ⟨_, hs.symm, ?_, ?_⟩
  · rw [add_two, et, show i * 2 + 2 = (i + 1) * 2 by omega]; exact h1
  · rw [add_two, et, show i * 2 + 1 + 2 = (i + 1) * 2 + 1 by omega]; exact h2
theorem decs_head {w : World} {A : Option Addr} {k v : Int} {T : List (Int × Int)} (h : Decs w A ((k, v) :: T)) : ∃ ad, A = some ad ∧ w.cell? ad = some (.int .i64 k) ∧ w.cell? ⟨ad.block, ad.off + 1, none⟩ = some (.int .u64 v) := by
  obtain ⟨ad, e, h1, h2⟩ := h 0 (by simp)
  have e0 : ad.add (0 * 2) = ad := by unfold Addr.add; simp
  have e1 : ad.add (0 * 2 + 1) = ⟨ad.block, ad.off + 1, none⟩ := by unfold Addr.add; simp
  rw [e0] at h1
  rw [e1] at h2
  exact ⟨ad, e, h1, h2⟩

set_option maxHeartbeats 4000000 in
set_option maxRecDepth 100000 in
theorem rdraw_num (B : Nat) (A0 : Option Addr) (c0 : Nat) (l : List Int) (A1 : Option Addr) (n1 c1 : Nat) (v4 : Value) (R : List (Int × Int)) (kind n m x v : Int) (w : World) (h0 : ReadsInt w .u64 A0 l.length l) (hc : l.length ≤ c0) (hl : 0 < l.length) (hx : rd l 0 = x) (hx0 : 0 ≤ x) (hm : (if n < 1 then 1 else n) = m) (hm2 : m ≤ 9223372036854775807)
    (hx18 : x < 18446744073709551616) (hv : x % m = v) (h4 : w.ownsRow B 57 2 v4 R.length (recs R)) (hR : R.length ≤ 1000) :
    Calls Try.prog 29 #[.agg #[.slice A0 l.length c0, .slice A1 n1 c1, .bool false, .bool false, v4], .int .i64 kind, .int .i64 n] w fun e w' => ∃ A v5, e = .returned (.tuple #[.agg #[.slice A (l.length - 1) (c0 - 1), .slice A1 n1 c1, .bool false, .bool false, v5], .int .i64 v, .int .i64 0]) ∧
      ReadsInt w' .u64 A (l.length - 1) l.tail ∧ w'.ownsRow w.heap.size 57 2 v5 (R.length + 1) (recs (R ++ [(kind, v)])) ∧ Below w.heap.size w w' ∧ A = tlA A0 c0 1 := by
  have q1 : decide ((l.length : Int) = 0) = false := decide_eq_false (by omega)
  have q1' : ((l.length : Int) == 0) = false := by rw [beq_eq_false_iff_ne]; omega
  have b1 : (0 : Int) < (l.length : Int) := by omega
  have hmax : (if n < 1 then (1 : Int) else n) = m := hm
  obtain ⟨ad, rfl, x0⟩ := h0.at_ 0 (by omega) (by omega)
  rw [hx, Int.toNat_zero, show ad.add 0 = ad by unfold Addr.add; split <;> simp_all] at x0
  have x1 := some_alloc (some_alloc x0 (.cells #[.slice (some ad) l.length c0, .slice A1 n1 c1, .bool false, .bool false, v4] 50)) (.cells #[.slice none 0 0, .slice none 0 0, .bool false, .bool false, .slice none 0 0] 50)
  have hm1 : 1 ≤ m := by rw [← hm]; split <;> omega
  have hv0 : 0 ≤ v := by rw [← hv]; exact Int.emod_nonneg _ (by omega)
  have hv1 : v < m := by rw [← hv]; exact Int.emod_lt_of_pos _ (by omega)
  have hv2 : x.tmod m = v := by rw [Int.tmod_eq_emod_of_nonneg hx0]; exact hv
  have e1 : IntKind.u64.wrap m = m := by rw [IntKind.wrap_u64]; omega
  have e2 : IntKind.i64.wrap v = v := by rw [IntKind.wrap_i64]; omega
  have e3 : IntKind.u64.wrap v = v := by rw [IntKind.wrap_u64]; omega
  have hm3 : ¬ m = 0 := by omega
  have q3 : decide (m = 0) = false := decide_eq_false hm3
  have H4 := Aside0.mk h4
  have H0 := Aside0.mk h0
  have HC := Aside0.mk hc
  have b2 : (1 : Int) ≤ (l.length : Int) := by omega
  have b3 : (l.length : Int) ≤ (c0 : Int) := by omega
  have hl2 : 1 ≤ l.length := by omega
  clear hm hv h4 hx h0
  obtain ⟨j0, hj0, hz0, hz1, hz2⟩ := info_parts info57
  have HJ := Aside0.mk (And.intro hj0 (And.intro hz0 (And.intro hz1 hz2)))
  clear hj0 hz0 hz1 hz2
  go_enter Try.func29, Try.ntmps29
  go_upto_region 15 with (fail)
  obtain ⟨sl, hsl⟩ : ∃ sl, (if c0 = 1 then some ad else some ({ block := ad.block, off := ad.off + 1 } : Addr)) = sl := ⟨_, rfl⟩
  have HSL := Aside0.mk hsl
  rw [hsl]
  clear hsl
  have HP := Aside0.mk (blk_alloc (blk_new w (.cells #[.slice sl (l.length - 1) (c0 - 1), .slice A1 n1 c1, .bool false, .bool false, v4] 50)) (.cells zS 50))
  have HZ := Aside0.mk (blk_new (w.alloc (.cells #[.slice sl (l.length - 1) (c0 - 1), .slice A1 n1 c1, .bool false, .bool false, v4] 50)) (.cells zS 50))
  rw [show (w.alloc (.cells #[.slice sl (l.length - 1) (c0 - 1), .slice A1 n1 c1, .bool false, .bool false, v4] 50)).heap.size = w.heap.size + 1 by simp] at HZ
  have HB := Aside0.mk (below_alloc (below_alloc (Below.refl w.heap.size w) (.cells #[.slice sl (l.length - 1) (c0 - 1), .slice A1 n1 c1, .bool false, .bool false, v4] 50)) (.cells zS 50))
  have H41 := Aside0.mk ((H4.out.alloc (.cells #[.slice sl (l.length - 1) (c0 - 1), .slice A1 n1 c1, .bool false, .bool false, v4] 50)).alloc (.cells zS 50))
  clear x0 x1
  change Code.wp _ _ _ _ ((w.alloc (.cells #[.slice sl (l.length - 1) (c0 - 1), .slice A1 n1 c1, .bool false, .bool false, v4] 50)).alloc (.cells zS 50))
  generalize (w.alloc (.cells #[.slice sl (l.length - 1) (c0 - 1), .slice A1 n1 c1, .bool false, .bool false, v4] 50)).alloc (.cells zS 50) = w1 at HP HZ HB H41 ⊢
  have HSZ := Aside0.mk (show w.heap.size + 2 ≤ w1.heap.size by have := blk_lt HZ.out; omega)
  obtain ⟨A4, k4, rfl⟩ := own_slice H4.out
  have c4 := some_alloc ((blk_cell HP.out 4).trans rfl : w1.cell? ⟨w.heap.size, 4, none⟩ = some (.slice A4 R.length k4)) (.cells #[] 57)
  have HO := Aside0.mk (own_empty w1 w.heap.size 57 2 HB.out.size)
  have H42 := Aside0.mk (H41.out.alloc (.cells #[] 57))
  have HB2 := Aside0.mk (HB.out.alloc HB.out.size (.cells #[] 57))
  have HP2 := Aside0.mk (blk_alloc HP.out (.cells #[] 57))
  have HZ2 := Aside0.mk (blk_alloc HZ.out (.cells #[] 57))
  have HRR := Aside0.mk hR
  go_upto_region 16 with (first
    | (at_builtin; refine wpList_copy rfl _ _ 47 rfl w.heap.size 57 j0 _ 2 16 Try.underlying47 HJ.out.1 HJ.out.2.1 HJ.out.2.2.1 HJ.out.2.2.2 rfl (by omega) w1.heap.size rfl HO.out B R.length _ (recs R) rfl H42.out (recs_one R) (by have := HRR.out; unfold maxLen; omega) (by have := HRR.out; omega) (Nat.le_trans HB.out.size (by simp)) ?_; intro A5 k5 w2 ho hg; have HO5 := Aside0.mk ho; have HB5 := Aside0.mk (HB2.out.grown hg (Nat.le_trans HB.out.size (by simp)) (fun k hk => by injection hk with hk; have h1 := HB.out.size; omega)); have HP5 := Aside0.mk (blk_grown HP2.out hg (by intro h; injection h with h; have h1 := HSZ.out; omega)); have HZ5 := Aside0.mk (blk_grown HZ2.out hg (by intro h; injection h with h; have h1 := HSZ.out; omega)); clear ho hg)
    | (at_builtin; refine wpList_append_lies _ (by rfl) _ _ 47 (by rfl) w.heap.size 57 j0 _ 2 16 Try.underlying47 HJ.out.1 HJ.out.2.1 HJ.out.2.2.1 HJ.out.2.2.2 rfl (by omega) (.slice A5 R.length k5) R.length (recs R) (by rfl) (HO5.out.alloc _) ⟨w2.heap.size, 0, none⟩ 1 1 [.int .i64 kind, .int .u64 v] (by rfl) (by rfl) (World.news_of_block (cs := #[.int .i64 kind, .int .u64 v]) (t := 57) (fr := (0, 0)) (heap_alloc_new w2 _)) (by simp [Value.oneCell']) (by omega) (by have := HRR.out; unfold maxLen; omega) (by have := HRR.out; omega) (Nat.le_trans HB5.out.size (by simp)) (w2.heap.size + 1) (by simp) ?_; intro gg cap w3 hown hgrow hat hlt; have HO6 := Aside0.mk (show w3.ownsRow w.heap.size 57 2 (.slice (some ⟨gg, 0, none⟩) (R.length + 1) cap) (R.length + 1) (recs (R ++ [(kind, v)])) from by rw [recs_append]; exact hown); have HB6 := Aside0.mk ((HB5.out.alloc HB5.out.size (.cells #[.int .i64 kind, .int .u64 v] 57)).grown hgrow (Nat.le_trans HB5.out.size (by simp)) (own_base HO5.out)); have HP6 := Aside0.mk (blk_grown (blk_alloc HP5.out (.cells #[.int .i64 kind, .int .u64 v] 57)) hgrow (own_ne (HO5.out.alloc _) (blk_alloc HP5.out (.cells #[.int .i64 kind, .int .u64 v] 57)) (by decide))); have HZ6 := Aside0.mk (blk_grown (blk_alloc HZ5.out (.cells #[.int .i64 kind, .int .u64 v] 57)) hgrow (own_ne (HO5.out.alloc _) (blk_alloc HZ5.out (.cells #[.int .i64 kind, .int .u64 v] 57)) (by decide))); have d4 := (blk_cell HP6.out 4).trans rfl; have f4 := blk_frozen HP6.out 4; clear hown hgrow hat hlt))
  have HP7 := Aside0.mk (show (w3.setCell ⟨w.heap.size, 4, none⟩ (.slice (some ⟨gg, 0, none⟩) (R.length + 1) cap)).heap[w.heap.size]? = some (.cells #[.slice sl (l.length - 1) (c0 - 1), .slice A1 n1 c1, .bool false, .bool false, .slice (some ⟨gg, 0, none⟩) (R.length + 1) cap] 50 (0, 0)) by simpa using blk_set HP6.out 4 (.slice (some ⟨gg, 0, none⟩) (R.length + 1) cap))
  have HZ7 := Aside0.mk (blk_far HZ6.out (p := ⟨w.heap.size, 4, none⟩) (by simp) (.slice (some ⟨gg, 0, none⟩) (R.length + 1) cap))
  have HO7 := Aside0.mk (own_setCell HO6.out (p := ⟨w.heap.size, 4, none⟩) (own_ne HO6.out HP6.out (by decide)) (.slice (some ⟨gg, 0, none⟩) (R.length + 1) cap))
  have HB7 := Aside0.mk (HB6.out.setCell (p := ⟨w.heap.size, 4, none⟩) (Nat.le_refl _) (.slice (some ⟨gg, 0, none⟩) (R.length + 1) cap))
  clear d4 f4 c4
  change Code.wp _ _ _ _ (w3.setCell ⟨w.heap.size, 4, none⟩ (.slice (some ⟨gg, 0, none⟩) (R.length + 1) cap))
  generalize w3.setCell ⟨w.heap.size, 4, none⟩ (.slice (some ⟨gg, 0, none⟩) (R.length + 1) cap) = w4 at HP7 HZ7 HO7 HB7 ⊢
  have p0' : w4.cell? ⟨w.heap.size, 0, none⟩ = some (.slice sl (l.length - 1) (c0 - 1)) := (blk_cell HP7.out 0).trans rfl
  have p1' : w4.cell? ⟨w.heap.size, 1, none⟩ = some (.slice A1 n1 c1) := (blk_cell HP7.out 1).trans rfl
  have p2' : w4.cell? ⟨w.heap.size, 2, none⟩ = some (.bool false) := (blk_cell HP7.out 2).trans rfl
  have p3' : w4.cell? ⟨w.heap.size, 3, none⟩ = some (.bool false) := (blk_cell HP7.out 3).trans rfl
  have p4' : w4.cell? ⟨w.heap.size, 4, none⟩ = some (.slice (some ⟨gg, 0, none⟩) (R.length + 1) cap) := (blk_cell HP7.out 4).trans rfl
  have r0 : w4.cell? ⟨w.heap.size + 1, 0, none⟩ = some (Value.slice none 0 0) := (blk_cell HZ7.out 0).trans rfl
  have g0 := blk_frozen HZ7.out 0
  have r1 : w4.cell? ⟨w.heap.size + 1, 1, none⟩ = some (Value.slice none 0 0) := (blk_cell HZ7.out 1).trans rfl
  have g1 := blk_frozen HZ7.out 1
  have r2 : w4.cell? ⟨w.heap.size + 1, 2, none⟩ = some (Value.bool false) := (blk_cell HZ7.out 2).trans rfl
  have g2 := blk_frozen HZ7.out 2
  have r3 : w4.cell? ⟨w.heap.size + 1, 3, none⟩ = some (Value.bool false) := (blk_cell HZ7.out 3).trans rfl
  have g3 := blk_frozen HZ7.out 3
  have r4 : w4.cell? ⟨w.heap.size + 1, 4, none⟩ = some (Value.slice none 0 0) := (blk_cell HZ7.out 4).trans rfl
  have g4 := blk_frozen HZ7.out 4
  have HZ8 := Aside0.mk (set5_50 HZ7.out (a := .slice sl (l.length - 1) (c0 - 1)) (b := .slice A1 n1 c1) (c := .bool false) (d := .bool false) (e := .slice (some ⟨gg, 0, none⟩) (R.length + 1) cap))
  have HB8 := Aside0.mk (show Below w.heap.size w (set5 w4 (w.heap.size + 1) (.slice sl (l.length - 1) (c0 - 1)) (.slice A1 n1 c1) (.bool false) (.bool false) (.slice (some ⟨gg, 0, none⟩) (R.length + 1) cap)) from set5_below HB7.out (by omega))
  have HO8 := Aside0.mk (show (set5 w4 (w.heap.size + 1) (.slice sl (l.length - 1) (c0 - 1)) (.slice A1 n1 c1) (.bool false) (.bool false) (.slice (some ⟨gg, 0, none⟩) (R.length + 1) cap)).ownsRow w.heap.size 57 2 (.slice (some ⟨gg, 0, none⟩) (R.length + 1) cap) (R.length + 1) (recs (R ++ [(kind, v)])) from set5_own HO7.out HZ7.out (by decide))
  have HR8 := Aside0.mk ((reads_tail H0.out HC.out HSL.out).below HB8.out)
  go_wp2
  exact bodyPost_ret (results_ctt (P := Try.prog) rfl _ (set5 w4 (w.heap.size + 1) (.slice sl (l.length - 1) (c0 - 1)) (.slice A1 n1 c1) (.bool false) (.bool false) (.slice (some ⟨gg, 0, none⟩) (R.length + 1) cap)) (w.heap.size + 1) 50 _ (0, 0) _ rfl HZ8.out Try.underlying50 rfl (by kernel_rfl)) rfl ⟨sl, _, rfl, HR8.out, HO8.out, HB8.out, HSL.out.symm⟩

set_option maxHeartbeats 4000000 in
set_option maxRecDepth 100000 in
theorem rdraw_num_dry (A0 : Option Addr) (c0 : Nat) (A1 : Option Addr) (n1 c1 : Nat) (A4 : Option Addr) (n4 c4 : Nat) (kind n : Int) (w : World) :
    Calls Try.prog 29 #[.agg #[.slice A0 0 c0, .slice A1 n1 c1, .bool false, .bool false, .slice A4 n4 c4], .int .i64 kind, .int .i64 n] w fun e w' => e = .returned (.tuple #[.agg #[.slice A0 0 c0, .slice A1 n1 c1, .bool false, .bool false, .slice A4 n4 c4], .int .i64 0, .int .i64 1]) ∧ Below w.heap.size w w' := by
  obtain ⟨m, hmax⟩ : ∃ m : Int, (if n < 1 then (1 : Int) else n) = m := ⟨_, rfl⟩
  go_enter Try.func29, Try.ntmps29
  go_upto_region 12 with (fail)
  have HP := Aside0.mk (blk_alloc (blk_new w (.cells #[.slice A0 0 c0, .slice A1 n1 c1, .bool false, .bool false, .slice A4 n4 c4] 50)) (.cells zS 50))
  have HZ := Aside0.mk (blk_new (w.alloc (.cells #[.slice A0 0 c0, .slice A1 n1 c1, .bool false, .bool false, .slice A4 n4 c4] 50)) (.cells zS 50))
  rw [show (w.alloc (.cells #[.slice A0 0 c0, .slice A1 n1 c1, .bool false, .bool false, .slice A4 n4 c4] 50)).heap.size = w.heap.size + 1 by simp] at HZ
  have HB := Aside0.mk (below_alloc (below_alloc (Below.refl w.heap.size w) (.cells #[.slice A0 0 c0, .slice A1 n1 c1, .bool false, .bool false, .slice A4 n4 c4] 50)) (.cells zS 50))
  change Code.wp _ _ _ _ ((w.alloc (.cells #[.slice A0 0 c0, .slice A1 n1 c1, .bool false, .bool false, .slice A4 n4 c4] 50)).alloc (.cells zS 50))
  generalize (w.alloc (.cells #[.slice A0 0 c0, .slice A1 n1 c1, .bool false, .bool false, .slice A4 n4 c4] 50)).alloc (.cells zS 50) = w4 at HP HZ HB ⊢
  have HP7 := HP
  have HZ7 := HZ
  have HB7 := HB
  have p0' : w4.cell? ⟨w.heap.size, 0, none⟩ = some (.slice A0 0 c0) := (blk_cell HP7.out 0).trans rfl
  have p1' : w4.cell? ⟨w.heap.size, 1, none⟩ = some (.slice A1 n1 c1) := (blk_cell HP7.out 1).trans rfl
  have p2' : w4.cell? ⟨w.heap.size, 2, none⟩ = some (.bool false) := (blk_cell HP7.out 2).trans rfl
  have p3' : w4.cell? ⟨w.heap.size, 3, none⟩ = some (.bool false) := (blk_cell HP7.out 3).trans rfl
  have p4' : w4.cell? ⟨w.heap.size, 4, none⟩ = some (.slice A4 n4 c4) := (blk_cell HP7.out 4).trans rfl
  have r0 : w4.cell? ⟨w.heap.size + 1, 0, none⟩ = some (Value.slice none 0 0) := (blk_cell HZ7.out 0).trans rfl
  have g0 := blk_frozen HZ7.out 0
  have r1 : w4.cell? ⟨w.heap.size + 1, 1, none⟩ = some (Value.slice none 0 0) := (blk_cell HZ7.out 1).trans rfl
  have g1 := blk_frozen HZ7.out 1
  have r2 : w4.cell? ⟨w.heap.size + 1, 2, none⟩ = some (Value.bool false) := (blk_cell HZ7.out 2).trans rfl
  have g2 := blk_frozen HZ7.out 2
  have r3 : w4.cell? ⟨w.heap.size + 1, 3, none⟩ = some (Value.bool false) := (blk_cell HZ7.out 3).trans rfl
  have g3 := blk_frozen HZ7.out 3
  have r4 : w4.cell? ⟨w.heap.size + 1, 4, none⟩ = some (Value.slice none 0 0) := (blk_cell HZ7.out 4).trans rfl
  have g4 := blk_frozen HZ7.out 4
  have HZ8 := Aside0.mk (set5_50 HZ7.out (a := .slice A0 0 c0) (b := .slice A1 n1 c1) (c := .bool false) (d := .bool false) (e := .slice A4 n4 c4))
  have HB8 := Aside0.mk (show Below w.heap.size w (set5 w4 (w.heap.size + 1) (.slice A0 0 c0) (.slice A1 n1 c1) (.bool false) (.bool false) (.slice A4 n4 c4)) from set5_below HB7.out (by omega))
  go_wp2
  exact bodyPost_ret (results_ctt (P := Try.prog) rfl _ (set5 w4 (w.heap.size + 1) (.slice A0 0 c0) (.slice A1 n1 c1) (.bool false) (.bool false) (.slice A4 n4 c4)) (w.heap.size + 1) 50 _ (0, 0) _ rfl HZ8.out Try.underlying50 rfl (by kernel_rfl)) rfl ⟨rfl, HB8.out⟩

set_option maxHeartbeats 4000000 in
set_option maxRecDepth 100000 in
theorem rdraw_tape_dry (A0 : Option Addr) (n0 c0 : Nat) (A1 : Option Addr) (c1 : Nat) (A4 : Option Addr) (n4 c4 : Nat) (kind n : Int) (w : World) :
    Calls Try.prog 29 #[.agg #[.slice A0 n0 c0, .slice A1 0 c1, .bool true, .bool false, .slice A4 n4 c4], .int .i64 kind, .int .i64 n] w fun e w' => e = .returned (.tuple #[.agg #[.slice A0 n0 c0, .slice A1 0 c1, .bool true, .bool false, .slice A4 n4 c4], .int .i64 0, .int .i64 1]) ∧ Below w.heap.size w w' := by
  obtain ⟨m, hmax⟩ : ∃ m : Int, (if n < 1 then (1 : Int) else n) = m := ⟨_, rfl⟩
  go_enter Try.func29, Try.ntmps29
  go_upto_region 5 with (fail)
  have HP := Aside0.mk (blk_alloc (blk_new w (.cells #[.slice A0 n0 c0, .slice A1 0 c1, .bool true, .bool false, .slice A4 n4 c4] 50)) (.cells zS 50))
  have HZ := Aside0.mk (blk_new (w.alloc (.cells #[.slice A0 n0 c0, .slice A1 0 c1, .bool true, .bool false, .slice A4 n4 c4] 50)) (.cells zS 50))
  rw [show (w.alloc (.cells #[.slice A0 n0 c0, .slice A1 0 c1, .bool true, .bool false, .slice A4 n4 c4] 50)).heap.size = w.heap.size + 1 by simp] at HZ
  have HB := Aside0.mk (below_alloc (below_alloc (Below.refl w.heap.size w) (.cells #[.slice A0 n0 c0, .slice A1 0 c1, .bool true, .bool false, .slice A4 n4 c4] 50)) (.cells zS 50))
  change Code.wp _ _ _ _ ((w.alloc (.cells #[.slice A0 n0 c0, .slice A1 0 c1, .bool true, .bool false, .slice A4 n4 c4] 50)).alloc (.cells zS 50))
  generalize (w.alloc (.cells #[.slice A0 n0 c0, .slice A1 0 c1, .bool true, .bool false, .slice A4 n4 c4] 50)).alloc (.cells zS 50) = w4 at HP HZ HB ⊢
  have HP7 := HP
  have HZ7 := HZ
  have HB7 := HB
  have p0' : w4.cell? ⟨w.heap.size, 0, none⟩ = some (.slice A0 n0 c0) := (blk_cell HP7.out 0).trans rfl
  have p1' : w4.cell? ⟨w.heap.size, 1, none⟩ = some (.slice A1 0 c1) := (blk_cell HP7.out 1).trans rfl
  have p2' : w4.cell? ⟨w.heap.size, 2, none⟩ = some (.bool true) := (blk_cell HP7.out 2).trans rfl
  have p3' : w4.cell? ⟨w.heap.size, 3, none⟩ = some (.bool false) := (blk_cell HP7.out 3).trans rfl
  have p4' : w4.cell? ⟨w.heap.size, 4, none⟩ = some (.slice A4 n4 c4) := (blk_cell HP7.out 4).trans rfl
  have r0 : w4.cell? ⟨w.heap.size + 1, 0, none⟩ = some (Value.slice none 0 0) := (blk_cell HZ7.out 0).trans rfl
  have g0 := blk_frozen HZ7.out 0
  have r1 : w4.cell? ⟨w.heap.size + 1, 1, none⟩ = some (Value.slice none 0 0) := (blk_cell HZ7.out 1).trans rfl
  have g1 := blk_frozen HZ7.out 1
  have r2 : w4.cell? ⟨w.heap.size + 1, 2, none⟩ = some (Value.bool false) := (blk_cell HZ7.out 2).trans rfl
  have g2 := blk_frozen HZ7.out 2
  have r3 : w4.cell? ⟨w.heap.size + 1, 3, none⟩ = some (Value.bool false) := (blk_cell HZ7.out 3).trans rfl
  have g3 := blk_frozen HZ7.out 3
  have r4 : w4.cell? ⟨w.heap.size + 1, 4, none⟩ = some (Value.slice none 0 0) := (blk_cell HZ7.out 4).trans rfl
  have g4 := blk_frozen HZ7.out 4
  have HZ8 := Aside0.mk (set5_50 HZ7.out (a := .slice A0 n0 c0) (b := .slice A1 0 c1) (c := .bool true) (d := .bool false) (e := .slice A4 n4 c4))
  have HB8 := Aside0.mk (show Below w.heap.size w (set5 w4 (w.heap.size + 1) (.slice A0 n0 c0) (.slice A1 0 c1) (.bool true) (.bool false) (.slice A4 n4 c4)) from set5_below HB7.out (by omega))
  go_wp2
  exact bodyPost_ret (results_ctt (P := Try.prog) rfl _ (set5 w4 (w.heap.size + 1) (.slice A0 n0 c0) (.slice A1 0 c1) (.bool true) (.bool false) (.slice A4 n4 c4)) (w.heap.size + 1) 50 _ (0, 0) _ rfl HZ8.out Try.underlying50 rfl (by kernel_rfl)) rfl ⟨rfl, HB8.out⟩

set_option maxHeartbeats 4000000 in
set_option maxRecDepth 100000 in
theorem rdraw_kind (A0 : Option Addr) (n0 c0 : Nat) (A1 : Option Addr) (c1 : Nat) (A4 : Option Addr) (n4 c4 : Nat) (T : List (Int × Int)) (kind n m k0 v0 : Int) (w : World) (h1 : Decs w A1 ((k0, v0) :: T)) (hm : (if n < 1 then 1 else n) = m) (hm2 : m ≤ 9223372036854775807) (hne : k0 ≠ kind) :
    Calls Try.prog 29 #[.agg #[.slice A0 n0 c0, .slice A1 (T.length + 1) c1, .bool true, .bool false, .slice A4 n4 c4], .int .i64 kind, .int .i64 n] w fun e w' => e = .returned (.tuple #[.agg #[.slice A0 n0 c0, .slice A1 (T.length + 1) c1, .bool true, .bool false, .slice A4 n4 c4], .int .i64 0, .int .i64 2]) ∧ Below w.heap.size w w' := by
  obtain ⟨ad, rfl, x0, y0⟩ := decs_head h1
  have x1 := some_alloc (some_alloc x0 (.cells #[.slice A0 n0 c0, .slice (some ad) (T.length + 1) c1, .bool true, .bool false, .slice A4 n4 c4] 50)) (.cells #[.slice none 0 0, .slice none 0 0, .bool false, .bool false, .slice none 0 0] 50)
  have y1 := some_alloc (some_alloc y0 (.cells #[.slice A0 n0 c0, .slice (some ad) (T.length + 1) c1, .bool true, .bool false, .slice A4 n4 c4] 50)) (.cells #[.slice none 0 0, .slice none 0 0, .bool false, .bool false, .slice none 0 0] 50)
  have hm1 : 1 ≤ m := by rw [← hm]; split <;> omega
  have e1 : IntKind.u64.wrap m = m := by rw [IntKind.wrap_u64]; omega
  have z1 : ¬ ((T.length : Int) + 1 = 0) := by omega
  have z2 : (0 : Int) < (T.length : Int) + 1 := by omega
  have hmax : (if n < 1 then (1 : Int) else n) = m := hm
  have q1 : (k0 != kind) = true := bne_iff_ne.2 hne
  clear hne
  clear hm h1
  go_enter Try.func29, Try.ntmps29
  go_upto_region 8 with (fail)
  have HP := Aside0.mk (blk_alloc (blk_new w (.cells #[.slice A0 n0 c0, .slice (some ad) (T.length + 1) c1, .bool true, .bool false, .slice A4 n4 c4] 50)) (.cells zS 50))
  have HZ := Aside0.mk (blk_new (w.alloc (.cells #[.slice A0 n0 c0, .slice (some ad) (T.length + 1) c1, .bool true, .bool false, .slice A4 n4 c4] 50)) (.cells zS 50))
  rw [show (w.alloc (.cells #[.slice A0 n0 c0, .slice (some ad) (T.length + 1) c1, .bool true, .bool false, .slice A4 n4 c4] 50)).heap.size = w.heap.size + 1 by simp] at HZ
  have HB := Aside0.mk (below_alloc (below_alloc (Below.refl w.heap.size w) (.cells #[.slice A0 n0 c0, .slice (some ad) (T.length + 1) c1, .bool true, .bool false, .slice A4 n4 c4] 50)) (.cells zS 50))
  have HP7 := Aside0.mk (blk_alloc HP.out (.cells #[.int .i64 k0, .int .u64 v0] 57))
  have HZ7 := Aside0.mk (blk_alloc HZ.out (.cells #[.int .i64 k0, .int .u64 v0] 57))
  have HB7 := Aside0.mk (below_alloc HB.out (.cells #[.int .i64 k0, .int .u64 v0] 57))
  clear x0 y0 x1 y1
  change Code.wp _ _ _ _ (((w.alloc (.cells #[.slice A0 n0 c0, .slice (some ad) (T.length + 1) c1, .bool true, .bool false, .slice A4 n4 c4] 50)).alloc (.cells zS 50)).alloc (.cells #[.int .i64 k0, .int .u64 v0] 57))
  generalize ((w.alloc (.cells #[.slice A0 n0 c0, .slice (some ad) (T.length + 1) c1, .bool true, .bool false, .slice A4 n4 c4] 50)).alloc (.cells zS 50)).alloc (.cells #[.int .i64 k0, .int .u64 v0] 57) = w4 at HP7 HZ7 HB7 ⊢
  have p0' : w4.cell? ⟨w.heap.size, 0, none⟩ = some (.slice A0 n0 c0) := (blk_cell HP7.out 0).trans rfl
  have p1' : w4.cell? ⟨w.heap.size, 1, none⟩ = some (.slice (some ad) (T.length + 1) c1) := (blk_cell HP7.out 1).trans rfl
  have p2' : w4.cell? ⟨w.heap.size, 2, none⟩ = some (.bool true) := (blk_cell HP7.out 2).trans rfl
  have p3' : w4.cell? ⟨w.heap.size, 3, none⟩ = some (.bool false) := (blk_cell HP7.out 3).trans rfl
  have p4' : w4.cell? ⟨w.heap.size, 4, none⟩ = some (.slice A4 n4 c4) := (blk_cell HP7.out 4).trans rfl
  have r0 : w4.cell? ⟨w.heap.size + 1, 0, none⟩ = some (Value.slice none 0 0) := (blk_cell HZ7.out 0).trans rfl
  have g0 := blk_frozen HZ7.out 0
  have r1 : w4.cell? ⟨w.heap.size + 1, 1, none⟩ = some (Value.slice none 0 0) := (blk_cell HZ7.out 1).trans rfl
  have g1 := blk_frozen HZ7.out 1
  have r2 : w4.cell? ⟨w.heap.size + 1, 2, none⟩ = some (Value.bool false) := (blk_cell HZ7.out 2).trans rfl
  have g2 := blk_frozen HZ7.out 2
  have r3 : w4.cell? ⟨w.heap.size + 1, 3, none⟩ = some (Value.bool false) := (blk_cell HZ7.out 3).trans rfl
  have g3 := blk_frozen HZ7.out 3
  have r4 : w4.cell? ⟨w.heap.size + 1, 4, none⟩ = some (Value.slice none 0 0) := (blk_cell HZ7.out 4).trans rfl
  have g4 := blk_frozen HZ7.out 4
  have HZ8 := Aside0.mk (set5_50 HZ7.out (a := .slice A0 n0 c0) (b := .slice (some ad) (T.length + 1) c1) (c := .bool true) (d := .bool false) (e := .slice A4 n4 c4))
  have HB8 := Aside0.mk (show Below w.heap.size w (set5 w4 (w.heap.size + 1) (.slice A0 n0 c0) (.slice (some ad) (T.length + 1) c1) (.bool true) (.bool false) (.slice A4 n4 c4)) from set5_below HB7.out (by omega))
  go_wp2
  exact bodyPost_ret (results_ctt (P := Try.prog) rfl _ (set5 w4 (w.heap.size + 1) (.slice A0 n0 c0) (.slice (some ad) (T.length + 1) c1) (.bool true) (.bool false) (.slice A4 n4 c4)) (w.heap.size + 1) 50 _ (0, 0) _ rfl HZ8.out Try.underlying50 rfl (by kernel_rfl)) rfl ⟨rfl, HB8.out⟩

set_option maxHeartbeats 4000000 in
set_option maxRecDepth 100000 in
theorem rdraw_big (A0 : Option Addr) (n0 c0 : Nat) (A1 : Option Addr) (c1 : Nat) (A4 : Option Addr) (n4 c4 : Nat) (T : List (Int × Int)) (kind n m k0 v0 : Int) (w : World) (h1 : Decs w A1 ((k0, v0) :: T)) (hm : (if n < 1 then 1 else n) = m) (hm2 : m ≤ 9223372036854775807) (hk : k0 = kind) (hle : m ≤ v0) :
    Calls Try.prog 29 #[.agg #[.slice A0 n0 c0, .slice A1 (T.length + 1) c1, .bool true, .bool false, .slice A4 n4 c4], .int .i64 kind, .int .i64 n] w fun e w' => e = .returned (.tuple #[.agg #[.slice A0 n0 c0, .slice A1 (T.length + 1) c1, .bool true, .bool false, .slice A4 n4 c4], .int .i64 0, .int .i64 2]) ∧ Below w.heap.size w w' := by
  obtain ⟨ad, rfl, x0, y0⟩ := decs_head h1
  have x1 := some_alloc (some_alloc x0 (.cells #[.slice A0 n0 c0, .slice (some ad) (T.length + 1) c1, .bool true, .bool false, .slice A4 n4 c4] 50)) (.cells #[.slice none 0 0, .slice none 0 0, .bool false, .bool false, .slice none 0 0] 50)
  have y1 := some_alloc (some_alloc y0 (.cells #[.slice A0 n0 c0, .slice (some ad) (T.length + 1) c1, .bool true, .bool false, .slice A4 n4 c4] 50)) (.cells #[.slice none 0 0, .slice none 0 0, .bool false, .bool false, .slice none 0 0] 50)
  have hm1 : 1 ≤ m := by rw [← hm]; split <;> omega
  have e1 : IntKind.u64.wrap m = m := by rw [IntKind.wrap_u64]; omega
  have z1 : ¬ ((T.length : Int) + 1 = 0) := by omega
  have z2 : (0 : Int) < (T.length : Int) + 1 := by omega
  have hmax : (if n < 1 then (1 : Int) else n) = m := hm
  subst hk
  have q1 : (k0 != k0) = false := bne_self_eq_false k0
  have q2 : decide (m ≤ v0) = true := decide_eq_true hle
  clear hm h1
  go_enter Try.func29, Try.ntmps29
  go_upto_region 8 with (fail)
  have HP := Aside0.mk (blk_alloc (blk_new w (.cells #[.slice A0 n0 c0, .slice (some ad) (T.length + 1) c1, .bool true, .bool false, .slice A4 n4 c4] 50)) (.cells zS 50))
  have HZ := Aside0.mk (blk_new (w.alloc (.cells #[.slice A0 n0 c0, .slice (some ad) (T.length + 1) c1, .bool true, .bool false, .slice A4 n4 c4] 50)) (.cells zS 50))
  rw [show (w.alloc (.cells #[.slice A0 n0 c0, .slice (some ad) (T.length + 1) c1, .bool true, .bool false, .slice A4 n4 c4] 50)).heap.size = w.heap.size + 1 by simp] at HZ
  have HB := Aside0.mk (below_alloc (below_alloc (Below.refl w.heap.size w) (.cells #[.slice A0 n0 c0, .slice (some ad) (T.length + 1) c1, .bool true, .bool false, .slice A4 n4 c4] 50)) (.cells zS 50))
  have HP7 := Aside0.mk (blk_alloc HP.out (.cells #[.int .i64 k0, .int .u64 v0] 57))
  have HZ7 := Aside0.mk (blk_alloc HZ.out (.cells #[.int .i64 k0, .int .u64 v0] 57))
  have HB7 := Aside0.mk (below_alloc HB.out (.cells #[.int .i64 k0, .int .u64 v0] 57))
  clear x0 y0 x1 y1
  change Code.wp _ _ _ _ (((w.alloc (.cells #[.slice A0 n0 c0, .slice (some ad) (T.length + 1) c1, .bool true, .bool false, .slice A4 n4 c4] 50)).alloc (.cells zS 50)).alloc (.cells #[.int .i64 k0, .int .u64 v0] 57))
  generalize ((w.alloc (.cells #[.slice A0 n0 c0, .slice (some ad) (T.length + 1) c1, .bool true, .bool false, .slice A4 n4 c4] 50)).alloc (.cells zS 50)).alloc (.cells #[.int .i64 k0, .int .u64 v0] 57) = w4 at HP7 HZ7 HB7 ⊢
  have p0' : w4.cell? ⟨w.heap.size, 0, none⟩ = some (.slice A0 n0 c0) := (blk_cell HP7.out 0).trans rfl
  have p1' : w4.cell? ⟨w.heap.size, 1, none⟩ = some (.slice (some ad) (T.length + 1) c1) := (blk_cell HP7.out 1).trans rfl
  have p2' : w4.cell? ⟨w.heap.size, 2, none⟩ = some (.bool true) := (blk_cell HP7.out 2).trans rfl
  have p3' : w4.cell? ⟨w.heap.size, 3, none⟩ = some (.bool false) := (blk_cell HP7.out 3).trans rfl
  have p4' : w4.cell? ⟨w.heap.size, 4, none⟩ = some (.slice A4 n4 c4) := (blk_cell HP7.out 4).trans rfl
  have r0 : w4.cell? ⟨w.heap.size + 1, 0, none⟩ = some (Value.slice none 0 0) := (blk_cell HZ7.out 0).trans rfl
  have g0 := blk_frozen HZ7.out 0
  have r1 : w4.cell? ⟨w.heap.size + 1, 1, none⟩ = some (Value.slice none 0 0) := (blk_cell HZ7.out 1).trans rfl
  have g1 := blk_frozen HZ7.out 1
  have r2 : w4.cell? ⟨w.heap.size + 1, 2, none⟩ = some (Value.bool false) := (blk_cell HZ7.out 2).trans rfl
  have g2 := blk_frozen HZ7.out 2
  have r3 : w4.cell? ⟨w.heap.size + 1, 3, none⟩ = some (Value.bool false) := (blk_cell HZ7.out 3).trans rfl
  have g3 := blk_frozen HZ7.out 3
  have r4 : w4.cell? ⟨w.heap.size + 1, 4, none⟩ = some (Value.slice none 0 0) := (blk_cell HZ7.out 4).trans rfl
  have g4 := blk_frozen HZ7.out 4
  have HZ8 := Aside0.mk (set5_50 HZ7.out (a := .slice A0 n0 c0) (b := .slice (some ad) (T.length + 1) c1) (c := .bool true) (d := .bool false) (e := .slice A4 n4 c4))
  have HB8 := Aside0.mk (show Below w.heap.size w (set5 w4 (w.heap.size + 1) (.slice A0 n0 c0) (.slice (some ad) (T.length + 1) c1) (.bool true) (.bool false) (.slice A4 n4 c4)) from set5_below HB7.out (by omega))
  go_wp2
  exact bodyPost_ret (results_ctt (P := Try.prog) rfl _ (set5 w4 (w.heap.size + 1) (.slice A0 n0 c0) (.slice (some ad) (T.length + 1) c1) (.bool true) (.bool false) (.slice A4 n4 c4)) (w.heap.size + 1) 50 _ (0, 0) _ rfl HZ8.out Try.underlying50 rfl (by kernel_rfl)) rfl ⟨rfl, HB8.out⟩

set_option maxHeartbeats 4000000 in
set_option maxRecDepth 100000 in
theorem rdraw_tape (B : Nat) (A0 : Option Addr) (n0 c0 : Nat) (A1 : Option Addr) (c1 : Nat) (v4 : Value) (R T : List (Int × Int)) (kind n m v : Int) (w : World) (h1 : Decs w A1 ((kind, v) :: T)) (hc : T.length + 1 ≤ c1) (hm : (if n < 1 then 1 else n) = m) (hm2 : m ≤ 9223372036854775807)
    (hv0 : 0 ≤ v) (hv1 : v < m) (h4 : w.ownsRow B 57 2 v4 R.length (recs R)) (hR : R.length ≤ 1000) :
    Calls Try.prog 29 #[.agg #[.slice A0 n0 c0, .slice A1 (T.length + 1) c1, .bool true, .bool false, v4], .int .i64 kind, .int .i64 n] w fun e w' => ∃ A v5, e = .returned (.tuple #[.agg #[.slice A0 n0 c0, .slice A T.length (c1 - 1), .bool true, .bool false, v5], .int .i64 v, .int .i64 0]) ∧
      Decs w' A T ∧ w'.ownsRow w.heap.size 57 2 v5 (R.length + 1) (recs (R ++ [(kind, v)])) ∧ Below w.heap.size w w' ∧ A = tlA A1 c1 2 := by
  have H0 := Aside0.mk h1
  obtain ⟨ad, rfl, x0, y0⟩ := decs_head h1
  have x1 := some_alloc (some_alloc x0 (.cells #[.slice A0 n0 c0, .slice (some ad) (T.length + 1) c1, .bool true, .bool false, v4] 50)) (.cells #[.slice none 0 0, .slice none 0 0, .bool false, .bool false, .slice none 0 0] 50)
  have y1 := some_alloc (some_alloc y0 (.cells #[.slice A0 n0 c0, .slice (some ad) (T.length + 1) c1, .bool true, .bool false, v4] 50)) (.cells #[.slice none 0 0, .slice none 0 0, .bool false, .bool false, .slice none 0 0] 50)
  have hm1 : 1 ≤ m := by rw [← hm]; split <;> omega
  have e1 : IntKind.u64.wrap m = m := by rw [IntKind.wrap_u64]; omega
  have e2 : IntKind.i64.wrap v = v := by rw [IntKind.wrap_i64]; omega
  have z1 : ¬ ((T.length : Int) + 1 = 0) := by omega
  have z2 : (0 : Int) < (T.length : Int) + 1 := by omega
  have z3 : (1 : Int) ≤ (T.length : Int) + 1 := by omega
  have z4 : (T.length : Int) + 1 ≤ (c1 : Int) := by omega
  have hmax : (if n < 1 then (1 : Int) else n) = m := hm
  have q1 : (kind != kind) = false := bne_self_eq_false kind
  have q2 : decide (m ≤ v) = false := decide_eq_false (by omega)
  have H4 := Aside0.mk h4
  have HC := Aside0.mk hc
  clear hm h4 h1
  obtain ⟨j0, hj0, hz0, hz1, hz2⟩ := info_parts info57
  have HJ := Aside0.mk (And.intro hj0 (And.intro hz0 (And.intro hz1 hz2)))
  clear hj0 hz0 hz1 hz2
  go_enter Try.func29, Try.ntmps29
  go_upto_region 15 with (fail)
  obtain ⟨sl, hsl⟩ : ∃ sl, (if c1 = 1 then some ad else some ({ block := ad.block, off := ad.off + 2 } : Addr)) = sl := ⟨_, rfl⟩
  have HSL := Aside0.mk hsl
  rw [hsl]
  clear hsl
  have HPa := Aside0.mk (blk_alloc (blk_new w (.cells #[.slice A0 n0 c0, .slice sl T.length (c1 - 1), .bool true, .bool false, v4] 50)) (.cells zS 50))
  have HZ := Aside0.mk (blk_new (w.alloc (.cells #[.slice A0 n0 c0, .slice sl T.length (c1 - 1), .bool true, .bool false, v4] 50)) (.cells zS 50))
  rw [show (w.alloc (.cells #[.slice A0 n0 c0, .slice sl T.length (c1 - 1), .bool true, .bool false, v4] 50)).heap.size = w.heap.size + 1 by simp] at HZ
  have HBa := Aside0.mk (below_alloc (below_alloc (Below.refl w.heap.size w) (.cells #[.slice A0 n0 c0, .slice sl T.length (c1 - 1), .bool true, .bool false, v4] 50)) (.cells zS 50))
  have HP := Aside0.mk (blk_alloc HPa.out (.cells #[.int .i64 kind, .int .u64 v] 57))
  have HZ' := Aside0.mk (blk_alloc HZ.out (.cells #[.int .i64 kind, .int .u64 v] 57))
  clear HZ
  have HZ := HZ'
  clear HZ'
  have HB := Aside0.mk (below_alloc HBa.out (.cells #[.int .i64 kind, .int .u64 v] 57))
  have H41 := Aside0.mk (((H4.out.alloc (.cells #[.slice A0 n0 c0, .slice sl T.length (c1 - 1), .bool true, .bool false, v4] 50)).alloc (.cells zS 50)).alloc (.cells #[.int .i64 kind, .int .u64 v] 57))
  clear x0 x1 y0 y1 HPa HBa
  change Code.wp _ _ _ _ (((w.alloc (.cells #[.slice A0 n0 c0, .slice sl T.length (c1 - 1), .bool true, .bool false, v4] 50)).alloc (.cells zS 50)).alloc (.cells #[.int .i64 kind, .int .u64 v] 57))
  generalize ((w.alloc (.cells #[.slice A0 n0 c0, .slice sl T.length (c1 - 1), .bool true, .bool false, v4] 50)).alloc (.cells zS 50)).alloc (.cells #[.int .i64 kind, .int .u64 v] 57) = w1 at HP HZ HB H41 ⊢
  have HSZ := Aside0.mk (show w.heap.size + 2 ≤ w1.heap.size by have := blk_lt HZ.out; omega)
  obtain ⟨A4, k4, rfl⟩ := own_slice H4.out
  have c4 := some_alloc ((blk_cell HP.out 4).trans rfl : w1.cell? ⟨w.heap.size, 4, none⟩ = some (.slice A4 R.length k4)) (.cells #[] 57)
  have HO := Aside0.mk (own_empty w1 w.heap.size 57 2 HB.out.size)
  have H42 := Aside0.mk (H41.out.alloc (.cells #[] 57))
  have HB2 := Aside0.mk (HB.out.alloc HB.out.size (.cells #[] 57))
  have HP2 := Aside0.mk (blk_alloc HP.out (.cells #[] 57))
  have HZ2 := Aside0.mk (blk_alloc HZ.out (.cells #[] 57))
  have HRR := Aside0.mk hR
  go_upto_region 16 with (first
    | (at_builtin; refine wpList_copy rfl _ _ 47 rfl w.heap.size 57 j0 _ 2 16 Try.underlying47 HJ.out.1 HJ.out.2.1 HJ.out.2.2.1 HJ.out.2.2.2 rfl (by omega) w1.heap.size rfl HO.out B R.length _ (recs R) rfl H42.out (recs_one R) (by have := HRR.out; unfold maxLen; omega) (by have := HRR.out; omega) (Nat.le_trans HB.out.size (by simp)) ?_; intro A5 k5 w2 ho hg; have HO5 := Aside0.mk ho; have HB5 := Aside0.mk (HB2.out.grown hg (Nat.le_trans HB.out.size (by simp)) (fun k hk => by injection hk with hk; have h1 := HB.out.size; omega)); have HP5 := Aside0.mk (blk_grown HP2.out hg (by intro h; injection h with h; have h1 := HSZ.out; omega)); have HZ5 := Aside0.mk (blk_grown HZ2.out hg (by intro h; injection h with h; have h1 := HSZ.out; omega)); clear ho hg)
    | (at_builtin; refine wpList_append_lies _ (by rfl) _ _ 47 (by rfl) w.heap.size 57 j0 _ 2 16 Try.underlying47 HJ.out.1 HJ.out.2.1 HJ.out.2.2.1 HJ.out.2.2.2 rfl (by omega) (.slice A5 R.length k5) R.length (recs R) (by rfl) (HO5.out.alloc _) ⟨w2.heap.size, 0, none⟩ 1 1 [.int .i64 kind, .int .u64 v] (by rfl) (by rfl) (World.news_of_block (cs := #[.int .i64 kind, .int .u64 v]) (t := 57) (fr := (0, 0)) (heap_alloc_new w2 _)) (by simp [Value.oneCell']) (by omega) (by have := HRR.out; unfold maxLen; omega) (by have := HRR.out; omega) (Nat.le_trans HB5.out.size (by simp)) (w2.heap.size + 1) (by simp) ?_; intro gg cap w3 hown hgrow hat hlt; have HO6 := Aside0.mk (show w3.ownsRow w.heap.size 57 2 (.slice (some ⟨gg, 0, none⟩) (R.length + 1) cap) (R.length + 1) (recs (R ++ [(kind, v)])) from by rw [recs_append]; exact hown); have HB6 := Aside0.mk ((HB5.out.alloc HB5.out.size (.cells #[.int .i64 kind, .int .u64 v] 57)).grown hgrow (Nat.le_trans HB5.out.size (by simp)) (own_base HO5.out)); have HP6 := Aside0.mk (blk_grown (blk_alloc HP5.out (.cells #[.int .i64 kind, .int .u64 v] 57)) hgrow (own_ne (HO5.out.alloc _) (blk_alloc HP5.out (.cells #[.int .i64 kind, .int .u64 v] 57)) (by decide))); have HZ6 := Aside0.mk (blk_grown (blk_alloc HZ5.out (.cells #[.int .i64 kind, .int .u64 v] 57)) hgrow (own_ne (HO5.out.alloc _) (blk_alloc HZ5.out (.cells #[.int .i64 kind, .int .u64 v] 57)) (by decide))); have d4 := (blk_cell HP6.out 4).trans rfl; have f4 := blk_frozen HP6.out 4; clear hown hgrow hat hlt))
  have HP7 := Aside0.mk (show (w3.setCell ⟨w.heap.size, 4, none⟩ (.slice (some ⟨gg, 0, none⟩) (R.length + 1) cap)).heap[w.heap.size]? = some (.cells #[.slice A0 n0 c0, .slice sl T.length (c1 - 1), .bool true, .bool false, .slice (some ⟨gg, 0, none⟩) (R.length + 1) cap] 50 (0, 0)) by simpa using blk_set HP6.out 4 (.slice (some ⟨gg, 0, none⟩) (R.length + 1) cap))
  have HZ7 := Aside0.mk (blk_far HZ6.out (p := ⟨w.heap.size, 4, none⟩) (by simp) (.slice (some ⟨gg, 0, none⟩) (R.length + 1) cap))
  have HO7 := Aside0.mk (own_setCell HO6.out (p := ⟨w.heap.size, 4, none⟩) (own_ne HO6.out HP6.out (by decide)) (.slice (some ⟨gg, 0, none⟩) (R.length + 1) cap))
  have HB7 := Aside0.mk (HB6.out.setCell (p := ⟨w.heap.size, 4, none⟩) (Nat.le_refl _) (.slice (some ⟨gg, 0, none⟩) (R.length + 1) cap))
  clear d4 f4 c4
  change Code.wp _ _ _ _ (w3.setCell ⟨w.heap.size, 4, none⟩ (.slice (some ⟨gg, 0, none⟩) (R.length + 1) cap))
  generalize w3.setCell ⟨w.heap.size, 4, none⟩ (.slice (some ⟨gg, 0, none⟩) (R.length + 1) cap) = w4 at HP7 HZ7 HO7 HB7 ⊢
  have p0' : w4.cell? ⟨w.heap.size, 0, none⟩ = some (.slice A0 n0 c0) := (blk_cell HP7.out 0).trans rfl
  have p1' : w4.cell? ⟨w.heap.size, 1, none⟩ = some (.slice sl T.length (c1 - 1)) := (blk_cell HP7.out 1).trans rfl
  have p2' : w4.cell? ⟨w.heap.size, 2, none⟩ = some (.bool true) := (blk_cell HP7.out 2).trans rfl
  have p3' : w4.cell? ⟨w.heap.size, 3, none⟩ = some (.bool false) := (blk_cell HP7.out 3).trans rfl
  have p4' : w4.cell? ⟨w.heap.size, 4, none⟩ = some (.slice (some ⟨gg, 0, none⟩) (R.length + 1) cap) := (blk_cell HP7.out 4).trans rfl
  have r0 : w4.cell? ⟨w.heap.size + 1, 0, none⟩ = some (Value.slice none 0 0) := (blk_cell HZ7.out 0).trans rfl
  have g0 := blk_frozen HZ7.out 0
  have r1 : w4.cell? ⟨w.heap.size + 1, 1, none⟩ = some (Value.slice none 0 0) := (blk_cell HZ7.out 1).trans rfl
  have g1 := blk_frozen HZ7.out 1
  have r2 : w4.cell? ⟨w.heap.size + 1, 2, none⟩ = some (Value.bool false) := (blk_cell HZ7.out 2).trans rfl
  have g2 := blk_frozen HZ7.out 2
  have r3 : w4.cell? ⟨w.heap.size + 1, 3, none⟩ = some (Value.bool false) := (blk_cell HZ7.out 3).trans rfl
  have g3 := blk_frozen HZ7.out 3
  have r4 : w4.cell? ⟨w.heap.size + 1, 4, none⟩ = some (Value.slice none 0 0) := (blk_cell HZ7.out 4).trans rfl
  have g4 := blk_frozen HZ7.out 4
  have HZ8 := Aside0.mk (set5_50 HZ7.out (a := .slice A0 n0 c0) (b := .slice sl T.length (c1 - 1)) (c := .bool true) (d := .bool false) (e := .slice (some ⟨gg, 0, none⟩) (R.length + 1) cap))
  have HB8 := Aside0.mk (show Below w.heap.size w (set5 w4 (w.heap.size + 1) (.slice A0 n0 c0) (.slice sl T.length (c1 - 1)) (.bool true) (.bool false) (.slice (some ⟨gg, 0, none⟩) (R.length + 1) cap)) from set5_below HB7.out (by omega))
  have HO8 := Aside0.mk (show (set5 w4 (w.heap.size + 1) (.slice A0 n0 c0) (.slice sl T.length (c1 - 1)) (.bool true) (.bool false) (.slice (some ⟨gg, 0, none⟩) (R.length + 1) cap)).ownsRow w.heap.size 57 2 (.slice (some ⟨gg, 0, none⟩) (R.length + 1) cap) (R.length + 1) (recs (R ++ [(kind, v)])) from set5_own HO7.out HZ7.out (by decide))
  have HR8 := Aside0.mk (show Decs _ sl T from (decs_tail (T := (kind, v) :: T) H0.out HC.out HSL.out).below HB8.out)
  go_wp2
  exact bodyPost_ret (results_ctt (P := Try.prog) rfl _ (set5 w4 (w.heap.size + 1) (.slice A0 n0 c0) (.slice sl T.length (c1 - 1)) (.bool true) (.bool false) (.slice (some ⟨gg, 0, none⟩) (R.length + 1) cap)) (w.heap.size + 1) 50 _ (0, 0) _ rfl HZ8.out Try.underlying50 rfl (by kernel_rfl)) rfl ⟨sl, _, rfl, HR8.out, HO8.out, HB8.out, HSL.out.symm⟩

end Go.Proofs.Ythlllcmffgdcmab.Src

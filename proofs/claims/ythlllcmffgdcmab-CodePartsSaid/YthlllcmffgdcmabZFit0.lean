/- An instruction's fields, so that it may be: the walk, op by op. -/
import Derived.Test.YthlllcmffgdcmabZCode4
section
namespace Go.Proofs.Ythlllcmffgdcmab.Code
open Go.RowKit Go.Proofs.YthlllcmffgdcmabW.PrintWords Go.Proofs.YthlllcmffgdcmabW.PrintLast Go.Proofs.YthlllcmffgdcmabW.PrintMore
set_option linter.unusedVariables false
set_option linter.unusedSimpArgs false
def modF (n m : Int) : Int := if m < 1 then 0 else Int.tmod (wrap64 ((Int.tmod n m) + m)) m
theorem modF_in {n m : Int} (h1 : 1 ≤ m) (h2 : m < 4611686018427387904) : 0 ≤ modF n m ∧ modF n m < m := by
  unfold modF
  rw [if_neg (by omega)]
  have a1 := Int.tmod_lt_of_pos n (show 0 < m by omega)
  have a2 : -m < Int.tmod n m := by
    have h := Int.tmod_lt_of_pos (-n) (show 0 < m by omega)
    rw [Int.neg_tmod] at h
    omega
  rw [w64_in _ (by omega)]
  exact ⟨Int.tmod_nonneg m (by omega), Int.tmod_lt_of_pos _ (by omega)⟩
theorem mod_calls (n m r : Int) (h : modF n m = r) (w : World) : Calls Try.prog 54 #[.int .i64 n, .int .i64 m] w fun e w' => e = .returned (.int .i64 r) ∧ Below w.heap.size w w' :=
  (Go.Proofs.Ythlllcmffgdcmab.PCodeChecks.shunterlaw10_mod.calls n m r w (by
    rw [← h]
    unfold Go.Proofs.Ythlllcmffgdcmab.PCodeChecks.shunterlaw10_mod.f modF
    by_cases h1 : m < 1
    · rw [if_pos h1, if_pos h1]
    · rw [if_neg h1, if_neg h1, if_neg (by omega)])).mono fun e w' ⟨h1, ⟨q, hq⟩⟩ => ⟨h1, by rw [hq]; exact pw_below_drewN (Below.refl _ _) q⟩
def fW (w : World) (p x : Array Value) : World := ((w.alloc (.cells p 112)).alloc (.cells x 128)).alloc (.cells #[.int .i64 0, .int .i64 0, .int .i64 0, .int .i64 0] 128)
theorem fW_below (w : World) (p x : Array Value) : Below w.heap.size w (fW w p x) := below_alloc (below_alloc (below_alloc (Below.refl _ _) _) _) _
theorem fW_p (w : World) (p x : Array Value) : (fW w p x).heap[w.heap.size]? = some (.cells p 112 (0, 0)) := blk_alloc (blk_alloc (blk_new w _) _) _
theorem fW_x (w : World) (p x : Array Value) : (fW w p x).heap[w.heap.size + 1]? = some (.cells x 128 (0, 0)) := by
  have := blk_alloc (blk_new (w.alloc (.cells p 112)) (.cells x 128)) (.cells #[.int .i64 0, .int .i64 0, .int .i64 0, .int .i64 0] 128)
  rwa [show (w.alloc (.cells p 112)).heap.size = w.heap.size + 1 by simp] at this
theorem fW_r (w : World) (p x : Array Value) : (fW w p x).heap[w.heap.size + 1 + 1]? = some (.cells #[.int .i64 0, .int .i64 0, .int .i64 0, .int .i64 0] 128 (0, 0)) := by
  have := blk_new ((w.alloc (.cells p 112)).alloc (.cells x 128)) (.cells #[.int .i64 0, .int .i64 0, .int .i64 0, .int .i64 0] 128)
  rwa [show ((w.alloc (.cells p 112)).alloc (.cells x 128)).heap.size = w.heap.size + 1 + 1 by simp] at this
theorem four_set {w : World} {g : Nat} {t : TypeId} {a b c d : Value} (h : w.heap[g]? = some (.cells #[a, b, c, d] t (0, 0))) (v0 v1 v2 v3 : Value) : ((((w.setCell ⟨g, 0, none⟩ v0).setCell ⟨g, 1, none⟩ v1).setCell ⟨g, 2, none⟩ v2).setCell ⟨g, 3, none⟩ v3).heap[g]? = some (.cells #[v0, v1, v2, v3] t (0, 0)) := by
  simpa using blk_set (blk_set (blk_set (blk_set h 0 v0) 1 v1) 2 v2) 3 v3
theorem far4 {w : World} {g k : Nat} {t : TypeId} {cs : Array Value} (h : w.heap[k]? = some (.cells cs t (0, 0))) (hk : k ≠ g) (v0 v1 v2 v3 : Value) : ((((w.setCell ⟨g, 0, none⟩ v0).setCell ⟨g, 1, none⟩ v1).setCell ⟨g, 2, none⟩ v2).setCell ⟨g, 3, none⟩ v3).heap[k]? = some (.cells cs t (0, 0)) := blk_far (blk_far (blk_far (blk_far h hk v0) hk v1) hk v2) hk v3
theorem four_below {w W : World} {g : Nat} (h : Below w.heap.size w W) (hg : w.heap.size ≤ g) (v0 v1 v2 v3 : Value) : Below w.heap.size w ((((W.setCell ⟨g, 0, none⟩ v0).setCell ⟨g, 1, none⟩ v1).setCell ⟨g, 2, none⟩ v2).setCell ⟨g, 3, none⟩ v3) := (((h.setCell hg v0).setCell hg v1).setCell hg v2).setCell hg v3
structure Few (nf nc ncs nfl : Nat) (locks : Int) : Prop where
  f : 1 ≤ nf ∧ nf ≤ 16
  c : nc ≤ 8
  s : ncs ≤ 32
  l : 1 ≤ nfl ∧ nfl ≤ 64
  k : 0 ≤ locks ∧ locks ≤ 8
variable {nf nc ncs nfl : Nat} {locks op a b c a8 b8 c8 ax bx x : Int}
theorem m8 {n r : Int} (h : modF n 8 = r) : inB r 0 8 = true := by rw [← h]; exact inB_true (modF_in (by decide) (by decide)).1 (modF_in (by decide) (by decide)).2
theorem mN {n r m : Int} (h1 : 1 ≤ m) (h2 : m < 4611686018427387904) (h : modF n m = r) : inB r 0 m = true := by rw [← h]; exact inB_true (modF_in h1 h2).1 (modF_in h1 h2).2
theorem z1 (ha : modF a 8 = a8) : insF nf nc locks ncs nfl 1 a8 b 0 = 0 := by
  rw [← eq_1, m8 ha]; rfl
theorem z2 (ha : modF a 8 = a8) (hb : modF b 8 = b8) : insF nf nc locks ncs nfl 2 a8 b8 0 = 0 := by
  rw [← eq_2, m8 ha, m8 hb]; rfl
theorem z3_3 (ha : modF a 8 = a8) (hb : modF b 8 = b8) (hc : modF c 8 = c8) : insF nf nc locks ncs nfl 3 a8 b8 c8 = 0 := by
  rw [← eq_3, m8 ha, m8 hb, m8 hc]; rfl
theorem z3_4 (ha : modF a 8 = a8) (hb : modF b 8 = b8) (hc : modF c 8 = c8) : insF nf nc locks ncs nfl 4 a8 b8 c8 = 0 := by
  rw [← eq_4, m8 ha, m8 hb, m8 hc]; rfl
theorem z3_5 (ha : modF a 8 = a8) (hb : modF b 8 = b8) (hc : modF c 8 = c8) : insF nf nc locks ncs nfl 5 a8 b8 c8 = 0 := by
  rw [← eq_5, m8 ha, m8 hb, m8 hc]; rfl
theorem z3_6 (ha : modF a 8 = a8) (hb : modF b 8 = b8) (hc : modF c 8 = c8) : insF nf nc locks ncs nfl 6 a8 b8 c8 = 0 := by
  rw [← eq_6, m8 ha, m8 hb, m8 hc]; rfl
theorem z7 (hn : Few nf nc ncs nfl locks) (hx : modF a nfl = ax) : insF nf nc locks ncs nfl 7 ax 0 0 = 0 := by
  have h1 := hn.f
  have h2 := hn.l
  have h3 := hn.c
  have h4 := hn.k
  have h5 := hn.s
  rw [← eq_7, mN (by omega) (by omega) hx]; rfl
theorem z8 (hn : Few nf nc ncs nfl locks) (ha : modF a 8 = a8) (hx : modF b nfl = bx) : insF nf nc locks ncs nfl 8 a8 bx 0 = 0 := by
  have h1 := hn.f
  have h2 := hn.l
  have h3 := hn.c
  have h4 := hn.k
  have h5 := hn.s
  rw [← eq_8, m8 ha, mN (by omega) (by omega) hx]; rfl
theorem z9_9 (hn : Few nf nc ncs nfl locks) (hx : modF a nf = ax) (hb : modF b 8 = b8) (hc : modF c 8 = c8) : insF nf nc locks ncs nfl 9 ax b8 c8 = 0 := by
  have h1 := hn.f
  have h2 := hn.l
  have h3 := hn.c
  have h4 := hn.k
  have h5 := hn.s
  rw [← eq_9, mN (by omega) (by omega) hx, m8 hb, m8 hc]; rfl
theorem z9_11 (hn : Few nf nc ncs nfl locks) (hx : modF a nf = ax) (hb : modF b 8 = b8) (hc : modF c 8 = c8) : insF nf nc locks ncs nfl 11 ax b8 c8 = 0 := by
  have h1 := hn.f
  have h2 := hn.l
  have h3 := hn.c
  have h4 := hn.k
  have h5 := hn.s
  rw [← eq_11, mN (by omega) (by omega) hx, m8 hb, m8 hc]; rfl
theorem z10_10 (ha : modF a 8 = a8) : insF nf nc locks ncs nfl 10 a8 0 0 = 0 := by
  rw [← eq_10, m8 ha]; rfl
theorem z10_17 (ha : modF a 8 = a8) : insF nf nc locks ncs nfl 17 a8 0 0 = 0 := by
  rw [← eq_17, m8 ha]; rfl
theorem z10_20 (ha : modF a 8 = a8) : insF nf nc locks ncs nfl 20 a8 0 0 = 0 := by
  rw [← eq_20, m8 ha]; rfl
theorem z21 (ha : modF a 8 = a8) (hx : modF b 1000 = bx) : insF nf nc locks ncs nfl 21 a8 (wrap64 (1 + bx)) 0 = 0 := by
  have h := modF_in (n := b) (m := 1000) (by decide) (by decide)
  rw [hx] at h
  rw [← eq_21, m8 ha, w64_in _ (by omega), inB_true (by omega) (by omega)]; rfl
theorem z22 (hx : modF a 1000 = ax) : insF nf nc locks ncs nfl 22 ax 0 0 = 0 := by
  have h := modF_in (n := a) (m := 1000) (by decide) (by decide)
  rw [hx] at h
  rw [← eq_22, inB_true (by omega) (by omega)]; rfl
theorem z0_0 (nf nc ncs nfl : Nat) (locks : Int) : insF nf nc locks ncs nfl 0 0 0 0 = 0 := by rw [← eq_0]; rfl
theorem z0_12 (nf nc ncs nfl : Nat) (locks : Int) : insF nf nc locks ncs nfl 12 0 0 0 = 0 := by rw [← eq_12]; rfl
theorem z18_18 (hn : Few nf nc ncs nfl locks) (hz : ¬ locks = 0) (hx : modF a locks = ax) : insF nf nc locks ncs nfl 18 ax 0 0 = 0 := by
  have h1 := hn.f
  have h2 := hn.l
  have h3 := hn.c
  have h4 := hn.k
  have h5 := hn.s
  rw [← eq_18, mN (by omega) (by omega) hx]; rfl
theorem z18_19 (hn : Few nf nc ncs nfl locks) (hz : ¬ locks = 0) (hx : modF a locks = ax) : insF nf nc locks ncs nfl 19 ax 0 0 = 0 := by
  have h1 := hn.f
  have h2 := hn.l
  have h3 := hn.c
  have h4 := hn.k
  have h5 := hn.s
  rw [← eq_19, mN (by omega) (by omega) hx]; rfl
theorem z13_13 (hn : Few nf nc ncs nfl locks) (hz : ¬ (nc : Int) = 0) (hx : modF a nc = ax) (hb : modF b 8 = b8) (hc : modF c 8 = c8) : insF nf nc locks ncs nfl 13 ax b8 0 = 0 := by
  have h1 := hn.f
  have h2 := hn.l
  have h3 := hn.c
  have h4 := hn.k
  have h5 := hn.s
  rw [← eq_13, mN (by omega) (by omega) hx, m8 hb]; rfl
theorem z13_14 (hn : Few nf nc ncs nfl locks) (hz : ¬ (nc : Int) = 0) (hx : modF a nc = ax) (hb : modF b 8 = b8) (hc : modF c 8 = c8) : insF nf nc locks ncs nfl 14 ax b8 c8 = 0 := by
  have h1 := hn.f
  have h2 := hn.l
  have h3 := hn.c
  have h4 := hn.k
  have h5 := hn.s
  rw [← eq_14, mN (by omega) (by omega) hx, m8 hb, m8 hc]; rfl
theorem z13_15 (hn : Few nf nc ncs nfl locks) (hz : ¬ (nc : Int) = 0) (hx : modF a nc = ax) (hb : modF b 8 = b8) (hc : modF c 8 = c8) : insF nf nc locks ncs nfl 15 ax 0 0 = 0 := by
  have h1 := hn.f
  have h2 := hn.l
  have h3 := hn.c
  have h4 := hn.k
  have h5 := hn.s
  rw [← eq_15, mN (by omega) (by omega) hx]; rfl
theorem z16 (hn : Few nf nc ncs nfl locks) (hz : ¬ (ncs : Int) = 0) (hx : modF a ncs = ax) (hy : modF b (wrap64 ((ncs : Int) - ax)) = bx) (hc : modF c 8 = c8) : insF nf nc locks ncs nfl 16 ax (wrap64 (1 + bx)) c8 = 0 := by
  have h1 := hn.f
  have h2 := hn.l
  have h3 := hn.c
  have h4 := hn.k
  have h5 := hn.s
  have g1 := modF_in (n := a) (m := ncs) (by omega) (by omega)
  rw [hx] at g1
  rw [w64_in _ (show (-9223372036854775808 : Int) ≤ (ncs : Int) - ax ∧ (ncs : Int) - ax ≤ 9223372036854775807 by omega)] at hy
  have g2 := modF_in (n := b) (m := (ncs : Int) - ax) (by omega) (by omega)
  rw [hy] at g2
  rw [← eq_16 nf nc ncs nfl (by omega), inB_true g1.1 g1.2, m8 hc, w64_in _ (show (-9223372036854775808 : Int) ≤ 1 + bx ∧ 1 + bx ≤ 9223372036854775807 by omega), w64_in ((ncs : Int) - ax) (by omega), w64_in _ (show (-9223372036854775808 : Int) ≤ (ncs : Int) - ax + 1 ∧ (ncs : Int) - ax + 1 ≤ 9223372036854775807 by omega), inB_true (by omega) (by omega)]; rfl
def fit2_T : Bool × List (List Nat × List Nat) := (true, [([], []), ([0], [0]), ([1], [1]), ([], []), ([3], [3]), ([4, 2], [4]), ([], []), ([6], [6]), ([7, 5], [7]), ([2, 8, 0, 1, 2], [2]), ([5, 9, 0, 1, 2, 3, 4, 5, 9], [5]), ([8, 10, 0, 1, 2, 3, 4, 5, 6, 7, 8, 9, 10], [8])])
theorem fit2_tab : rtab .any (opsOf Try.f70 2) = fit2_T := by kernel_rfl
def fit3_T : Bool × List (List Nat × List Nat) := (true, [([], []), ([0], [0]), ([1], [1]), ([], []), ([3], [3]), ([4], [4]), ([], []), ([6], [6]), ([7], [7]), ([2, 0, 1, 2], [2]), ([5, 9, 0, 1, 2, 3, 4, 5, 9], [5]), ([8, 10, 0, 1, 2, 3, 4, 5, 6, 7, 8, 9, 10], [8])])
theorem fit3_tab : rtab .any (opsOf Try.f70 3) = fit3_T := by kernel_rfl
def fit20_T : Bool × List (List Nat × List Nat) := (true, [([], []), ([0], [0]), ([], []), ([2], [2]), ([], []), ([3, 4], [3, 4]), ([], []), ([], []), ([1, 5, 6, 7], [1, 5, 6, 7]), ([8, 5, 0, 1, 2, 3, 4, 5, 6, 7, 8], [8])])
theorem fit20_tab : rtab .any (opsOf Try.f70 20) = fit20_T := by kernel_rfl
def fit45_T : Bool × List (List Nat × List Nat) := (true, [([], []), ([0], [0]), ([], []), ([2], [2]), ([], []), ([4], [4]), ([3, 5], [3, 5]), ([1, 6], [1, 6]), ([7, 6, 0, 1, 2, 3, 4, 5, 6, 7], [7])])
theorem fit45_tab : rtab .any (opsOf Try.f70 45) = fit45_T := by kernel_rfl
def fit30_T : Bool × List (List Nat × List Nat) := (true, [([], []), ([0], [0]), ([], []), ([2], [2]), ([], []), ([3, 4], [3, 4]), ([1, 5], [1, 5]), ([], []), ([7, 6, 5, 0, 1, 2, 3, 4, 5, 6, 7], [6, 7])])
theorem fit30_tab : rtab .any (opsOf Try.f70 30) = fit30_T := by kernel_rfl
end Go.Proofs.Ythlllcmffgdcmab.Code
end

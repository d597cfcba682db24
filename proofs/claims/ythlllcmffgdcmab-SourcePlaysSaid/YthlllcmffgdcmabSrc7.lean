import Derived.Test.YthlllcmffgdcmabSrc6
namespace Go.Proofs.Ythlllcmffgdcmab.Src
open Go.RowKit Go.Proofs.YthlllcmffgdcmabW.PrintWords Go.Proofs.YthlllcmffgdcmabW.PrintLast Go.Proofs.YthlllcmffgdcmabW.PrintMore
attribute [local go_sem] max2_int min2_int max_two min_two
set_option linter.unusedVariables false
set_option linter.unusedSimpArgs false

theorem i64_and255 (n : Int) : Go.bits .and .i64 n 255 = n % 256 := by
  have h127 : (BitVec.ofInt 64 255).toNat = 2 ^ 8 - 1 := by decide
  have key : (BitVec.ofInt 64 n &&& BitVec.ofInt 64 255).toNat = (n % ((2 ^ 64 : Nat) : Int)).toNat % 2 ^ 8 := by
    rw [BitVec.toNat_and, BitVec.toNat_ofInt, h127, Nat.and_two_pow_sub_one_eq_mod]
  show IntKind.i64.wrap ((BitVec.ofInt 64 n &&& BitVec.ofInt 64 255).toNat : Nat) = n % 256
  rw [key, IntKind.wrap_i64]
  omega

/-- An ask, so that it may be. -/
def fitK (k : Int) : Int := 1 + (k % 256) % 4
def fitN (n : Int) : Int := if 1099511627776 < n then n % 1099511627776 else n
theorem fitN_le (n : Int) : fitN n ≤ 1099511627776 := by unfold fitN; split <;> omega

set_option maxHeartbeats 1000000 in
theorem fit_calls (k n : Int) (w : World) : Calls Try.prog 20 #[.agg #[.int .i64 k, .int .i64 n]] w fun e w' => e = .returned (.tuple #[.int .i64 (fitK k), .int .i64 (fitN n)]) ∧ Below w.heap.size w w' := by
  obtain ⟨q, hq, hq0, hq1⟩ : ∃ q : Int, Go.bits .and .i64 k 255 = q ∧ 0 ≤ q ∧ q < 256 := ⟨k % 256, i64_and255 k, by omega, by omega⟩
  have HQ := Aside0.mk (show fitK k = 1 + q % 4 by rw [i64_and255] at hq; rw [fitK, hq])
  rw [HQ.out]
  by_cases h : 1099511627776 < n
  · have e : fitN n = n % 1099511627776 := if_pos h
    have h1 : decide ((1099511627776 : Int) < n) = true := decide_eq_true h
    rw [e]
    clear e
    go_enter Try.func20, Try.ntmps20
    go_wp2
    go_ret2
    exact ⟨rfl, below_alloc (Below.refl _ _) _⟩
  · have e : fitN n = n := if_neg h
    have h1 : decide ((1099511627776 : Int) < n) = false := decide_eq_false h
    rw [e]
    clear e
    go_enter Try.func20, Try.ntmps20
    go_wp2
    go_ret2
    exact ⟨rfl, below_alloc (Below.refl _ _) _⟩

theorem lit2_reads (w : World) (a b : Int) (e : TypeId) : ReadsInt (w.alloc (.cells #[.int .u64 a, .int .u64 b] e)) .u64 (some ⟨w.heap.size, 0, none⟩) 2 [a, b] :=
  ⟨rfl, by decide, fun _ => ⟨_, rfl, fun j hj => by
    rw [add_plain, blk_cell (blk_new w _)]
    match j, hj with
    | 0, _ => rfl
    | 1, _ => rfl⟩⟩

theorem Orc.lower {B B' : Nat} {w : World} {o : Nat} {l : List Int} {k : Nat} {vl : Value} (h : Orc B w o l k vl) (hB : B' ≤ B) : Orc B' w o l k vl := ⟨Nat.le_trans hB h.ge, h.blk, own_weaken h.row hB⟩
theorem Srce.lower {B B' : Nat} {w : World} {s K L o : Nat} {vt : Value} {nt : Nat} {rs : List Value} {see : Value} (h : Srce B w s K L o vt nt rs see) (hB : B' ≤ B) : Srce B' w s K L o vt nt rs see := ⟨Nat.le_trans hB h.ge, h.blk, own_weaken h.row hB⟩

theorem oracle79 (w : World) : Calls Try.prog 19 #[.slice (some ⟨w.heap.size, 0, none⟩) 2 2] (w.alloc (.cells #[.int .u64 7, .int .u64 9] 23)) fun e w' =>
    ∃ s o vl, e = .returned (.pointer (some ⟨s, 0, none⟩)) ∧ Orc w.heap.size w' o [7, 9] 0 vl ∧ Srce w.heap.size w' s 59 60 o (.slice none 0 0) 0 [] .nilFunc ∧ Below w.heap.size w w' := by
  have hs : w.heap.size ≤ (w.alloc (.cells #[.int .u64 7, .int .u64 9] 23)).heap.size := by simp
  exact (oracle_calls (some ⟨w.heap.size, 0, none⟩) 2 [7, 9] _ (lit2_reads w 7 9 23) (by decide)).mono fun e w' ⟨s, o, vl, h1, h2, h3, h4⟩ => ⟨s, o, vl, h1, h2.lower hs, h3.lower hs, below_step (below_alloc (Below.refl w.heap.size w) _) h4⟩

theorem draw_a (B s o : Nat) (vl vt : Value) (w : World) (hO : Orc B w o [7, 9] 0 vl) (hS : Srce B w s 59 60 o vt 0 [] .nilFunc) (hB : B ≤ w.heap.size) : Calls Try.prog 21 #[.pointer (some ⟨s, 0, none⟩), .int .i64 1, .int .i64 5] w fun e w' =>
    e = .returned (.tuple #[.int .i64 2, .int .i64 0, .agg #[.int .i64 0, .int .i64 0, .int .i64 0, .int .i64 0, .int .u64 0]]) ∧ ∃ vt' rs', Orc B w' o [7, 9] 1 vl ∧ Srce B w' s 59 60 o vt' 1 rs' .nilFunc ∧ Below B w w' :=
  (odraw21_ok B s o [7, 9] 0 vl vt 0 [] 1 5 5 w hO hS hB (by decide) rfl (by decide) (by decide) (by decide)).mono fun e w' ⟨h1, vt', h2, h3, h4⟩ => ⟨h1, vt', _, h2, h3, h4⟩
theorem draw_b (B s o : Nat) (vl vt : Value) (rs : List Value) (w : World) (hO : Orc B w o [7, 9] 1 vl) (hS : Srce B w s 59 60 o vt 1 rs .nilFunc) (hB : B ≤ w.heap.size) : Calls Try.prog 21 #[.pointer (some ⟨s, 0, none⟩), .int .i64 4, .int .i64 3] w fun e w' =>
    e = .returned (.tuple #[.int .i64 0, .int .i64 0, .agg #[.int .i64 0, .int .i64 0, .int .i64 0, .int .i64 0, .int .u64 0]]) ∧ ∃ vt' rs', Orc B w' o [7, 9] 2 vl ∧ Srce B w' s 59 60 o vt' 2 rs' .nilFunc ∧ Below B w w' :=
  (odraw21_ok B s o [7, 9] 1 vl vt 1 rs 4 3 3 w hO hS hB (by decide) rfl (by decide) (by decide) (by decide)).mono fun e w' ⟨h1, vt', h2, h3, h4⟩ => ⟨h1, vt', _, h2, h3, h4⟩
theorem draw_c (B s o : Nat) (vl vt : Value) (rs : List Value) (w : World) (hO : Orc B w o [7, 9] 2 vl) (hS : Srce B w s 59 60 o vt 2 rs .nilFunc) (hB : B ≤ w.heap.size) : Calls Try.prog 21 #[.pointer (some ⟨s, 0, none⟩), .int .i64 1, .int .i64 5] w fun e w' =>
    e = .returned (.tuple #[.int .i64 0, .int .i64 1, .agg #[.int .i64 0, .int .i64 0, .int .i64 0, .int .i64 0, .int .u64 0]]) ∧ Orc B w' o [7, 9] 2 vl ∧ Srce B w' s 59 60 o vt 2 rs .nilFunc ∧ Below B w w' :=
  odraw21_dry B s o [7, 9] vl vt 2 rs 1 5 .nilFunc w hO hS hB

theorem oleft_calls (B s o : Nat) (l : List Int) (k : Nat) (vl vt : Value) (nt : Nat) (rs : List Value) (see : Value) (m : Int) (w : World) (hO : Orc B w o l k vl) (hS : Srce B w s 59 60 o vt nt rs see) (hk : k ≤ l.length) (hm : (l.length : Int) - k = m) : Calls Try.prog 22 #[.pointer (some ⟨s, 0, none⟩)] w fun e w' =>
    e = .returned (.int .i64 m) ∧ ∃ n, w' = w.drewN n := by
  subst hm
  exact left_calls B s 60 o 59 vt nt rs see _ w hS callFunc60 (rest_calls B o l k vl w hO hk)

set_option maxHeartbeats 2000000 in
set_option maxRecDepth 100000 in
theorem awake_calls (w : World) : Calls Try.prog 15 #[] w fun e w' => e = .returned (.bool true) ∧ Below w.heap.size w w' := by
  go_enter Try.func15, Try.ntmps15
  go_wp2_with (first
    | (go_at_call 19; (with_reducible refine (oracle79 w).mono ?_); rintro e w1 ⟨s, o, vl, rfl, hO, hS, hb⟩; have HO1 := Aside0.mk hO; have HS1 := Aside0.mk hS; have HB1 := Aside0.mk hb; clear hO hS hb)
    | (go_at_call 21; (with_reducible refine (draw_a _ s o vl _ w1 HO1.out HS1.out HB1.out.size).mono ?_); rintro e w2 ⟨rfl, vt2, rs2, hO, hS, hb⟩; have HO2 := Aside0.mk (hO.below (below_alloc (Below.refl _ _) (.cells #[.int .i64 0, .int .i64 0, .int .i64 0, .int .i64 0, .int .u64 0] 27))); have HS2 := Aside0.mk (hS.below (below_alloc (Below.refl _ _) (.cells #[.int .i64 0, .int .i64 0, .int .i64 0, .int .i64 0, .int .u64 0] 27))); have HB2 := Aside0.mk ((HB1.out.trans hb).alloc (Nat.le_trans HB1.out.size hb.size) (.cells #[.int .i64 0, .int .i64 0, .int .i64 0, .int .i64 0, .int .u64 0] 27)); clear hO hS hb)
    | (go_at_call 21; (with_reducible refine (draw_b _ s o vl vt2 rs2 _ HO2.out HS2.out HB2.out.size).mono ?_); rintro e w3 ⟨rfl, vt3, rs3, hO, hS, hb⟩; have HO3 := Aside0.mk (hO.below (below_alloc (Below.refl _ _) (.cells #[.int .i64 0, .int .i64 0, .int .i64 0, .int .i64 0, .int .u64 0] 27))); have HS3 := Aside0.mk (hS.below (below_alloc (Below.refl _ _) (.cells #[.int .i64 0, .int .i64 0, .int .i64 0, .int .i64 0, .int .u64 0] 27))); have HB3 := Aside0.mk ((HB2.out.trans hb).alloc (Nat.le_trans HB2.out.size hb.size) (.cells #[.int .i64 0, .int .i64 0, .int .i64 0, .int .i64 0, .int .u64 0] 27)); clear hO hS hb)
    | (go_at_call 21; (with_reducible refine (draw_c _ s o vl vt3 rs3 _ HO3.out HS3.out HB3.out.size).mono ?_); rintro e w4 ⟨rfl, hO, hS, hb⟩; have HO4 := Aside0.mk (hO.below (below_alloc (Below.refl _ _) (.cells #[.int .i64 0, .int .i64 0, .int .i64 0, .int .i64 0, .int .u64 0] 27))); have HS4 := Aside0.mk (hS.below (below_alloc (Below.refl _ _) (.cells #[.int .i64 0, .int .i64 0, .int .i64 0, .int .i64 0, .int .u64 0] 27))); have HB4 := Aside0.mk ((HB3.out.trans hb).alloc (Nat.le_trans HB3.out.size hb.size) (.cells #[.int .i64 0, .int .i64 0, .int .i64 0, .int .i64 0, .int .u64 0] 27)); clear hO hS hb)
    | (go_at_call 22; (with_reducible refine (oleft_calls _ s o [7, 9] 2 vl vt3 2 rs3 .nilFunc 0 _ HO4.out HS4.out (by decide) rfl).mono ?_); rintro e w5 ⟨rfl, m, hw⟩; have HB5 := Aside0.mk (drew_below HB4.out hw); clear hw))
  go_ret
  exact ⟨rfl, HB5.out⟩
end Go.Proofs.Ythlllcmffgdcmab.Src

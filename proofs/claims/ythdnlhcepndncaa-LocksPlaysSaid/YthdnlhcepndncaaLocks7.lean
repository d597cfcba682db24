import Derived.Test.YthdnlhcepndncaaLocks6
import Derived.Deep.QuietTactic
import Derived.BigQuiet
import Derived.Deep.AppendLies
namespace Go.Proofs.Ythdnlhcepndncaa.Locks
open Go.RowKit Go.Proofs.YthdnlhcepndncaaW.PrintWords Go.Proofs.YthdnlhcepndncaaW.PrintLast Go.Proofs.YthdnlhcepndncaaW.PrintMore
set_option linter.unusedVariables false
set_option linter.unusedSimpArgs false

theorem two_new (w : World) (a b : Obj) : ((w.alloc a).alloc b).heap[w.heap.size + 1]? = some b := by simpa using blk_new (w.alloc a) b
theorem two_first (w : World) (a b : Obj) : ((w.alloc a).alloc b).heap[w.heap.size]? = some a := blk_alloc (blk_new w a) b
theorem two_below (w : World) (a b : Obj) : Below w.heap.size w ((w.alloc a).alloc b) := below_alloc (below_alloc (Below.refl _ _) _) _
theorem len_ne (n : Nat) : ((n : Int) + 1 == 0) = false := beq_eq_false_iff_ne.2 (by omega)

set_option maxHeartbeats 4000000 in
theorem rgive_nil (x : Int) (c : Nat) (A : Option Addr) (w : World) : Calls Try.prog 22 #[.agg #[.slice A 0 c], .int .i64 x] w fun e w' =>
    e = .returned (.tuple #[.agg #[.slice A 0 c], .int .i64 (-1), .int .i64 5]) ∧ Below w.heap.size w w' := by
  go_enter Try.func22, Try.ntmps22
  go_wp2
  exact bodyPost_ret (results_ctt (P := Try.prog) rfl _ _ (w.heap.size + 1) 36 #[.slice A 0 c] (0, 0) _ rfl (two_new _ _ _) Try.underlying36 rfl (by kernel_rfl)) rfl ⟨rfl, two_below _ _ _⟩

set_option maxHeartbeats 4000000 in
theorem rgive_no (x z : Int) (tl : List Int) (c : Nat) (A : Option Addr) (w : World) (hr : ReadsInt w .i64 A (z :: tl).length (z :: tl)) (hz : z ≠ x) : Calls Try.prog 22 #[.agg #[.slice A (z :: tl).length c], .int .i64 x] w fun e w' =>
    e = .returned (.tuple #[.agg #[.slice A (z :: tl).length c], .int .i64 (-1), .int .i64 5]) ∧ Below w.heap.size w w' := by
  obtain ⟨ad, rfl, k0⟩ := hr.at_ 0 (by omega) (by simp)
  have hne : (z != x) = true := by simpa using hz
  have hl := len_ne tl.length
  have k0' : ((w.alloc (.cells #[.slice (some ad) (tl.length + 1) c] 36)).alloc (.cells #[.slice none 0 0] 36)).cell? ad = some (.int .i64 z) := pw_cell_below (two_below _ _ _) (by simpa [Addr.add, rd] using k0)
  clear hr hz k0
  go_enter Try.func22, Try.ntmps22
  go_wp2
  exact bodyPost_ret (results_ctt (P := Try.prog) rfl _ _ (w.heap.size + 1) 36 #[.slice (some ad) (z :: tl).length c] (0, 0) _ rfl (two_new _ _ _) Try.underlying36 rfl (by kernel_rfl)) rfl ⟨rfl, two_below _ _ _⟩

set_option maxHeartbeats 4000000 in
theorem rgive_one (z : Int) (c : Nat) (A : Option Addr) (w : World) (hr : ReadsInt w .i64 A [z].length [z]) : Calls Try.prog 22 #[.agg #[.slice A [z].length c], .int .i64 z] w fun e w' =>
    e = .returned (.tuple #[.agg #[.slice none 0 0], .int .i64 (-1), .int .i64 0]) ∧ Below w.heap.size w w' := by
  obtain ⟨ad, rfl, k0⟩ := hr.at_ 0 (by omega) (by simp)
  have k0' : ((w.alloc (.cells #[.slice (some ad) 1 c] 36)).alloc (.cells #[.slice none 0 0] 36)).cell? ad = some (.int .i64 z) := pw_cell_below (two_below _ _ _) (by simpa [Addr.add, rd] using k0)
  clear hr k0
  go_enter Try.func22, Try.ntmps22
  go_wp2
  exact bodyPost_ret (results_ctt (P := Try.prog) rfl _ _ (w.heap.size + 1) 36 #[.slice none 0 0] (0, 0) _ rfl (two_new _ _ _) Try.underlying36 rfl (by kernel_rfl)) rfl ⟨rfl, two_below _ _ _⟩

theorem own_new0 (W : World) (B : Nat) (hB : B ≤ W.heap.size) : (W.alloc (.cells #[] 3)).drew.ownsRow B 3 1 (.slice (some ⟨W.heap.size, 0, none⟩) 0 0) 0 [] := by
  have h := own_lit W B 3 .i64 [] hB (by simp)
  exact (show (W.alloc (.cells #[] 3)).ownsRow B 3 1 (.slice (some ⟨W.heap.size, 0, none⟩) 0 0) 0 [] by simpa [nums] using h)
theorem news_of_reads {w W : World} {A : Addr} {n : Nat} {xs : List Int} (h : ReadsInt w .i64 (some A) n xs) (hb : Below w.heap.size w W) : ∀ j u, (nums .i64 xs)[j]? = some u → W.cell? (A.add j) = some u := by
  intro j u hu
  have hj : j < n := by
    have h1 := h.1
    rcases Nat.lt_or_ge j n with hh | hh
    · exact hh
    · rw [List.getElem?_eq_none (by rw [nums_length]; omega)] at hu; cases hu
  obtain ⟨ad, e, hc⟩ := (h.below hb).2.2 (by omega)
  obtain rfl := Option.some.inj e
  rw [hc j hj, ← hu]
  simp only [nums, List.getElem?_map, List.getD_eq_getElem?_getD]
  have h1 := h.1
  rw [List.getElem?_eq_getElem (by omega)]
  rfl
theorem add_block (ad : Addr) (j : Nat) : (ad.add j).block = ad.block := by unfold Addr.add; split <;> rfl

set_option maxHeartbeats 4000000 in
theorem rgive_more (z y : Int) (tl : List Int) (c : Nat) (hc : (z :: y :: tl).length ≤ c) (hm : (z :: y :: tl).length ≤ 1000) (A : Option Addr) (w : World) (hr : ReadsInt w .i64 A (z :: y :: tl).length (z :: y :: tl)) : Calls Try.prog 22 #[.agg #[.slice A (z :: y :: tl).length c], .int .i64 z] w fun e w' =>
    ∃ v1, e = .returned (.tuple #[.agg #[v1], .int .i64 y, .int .i64 0]) ∧ w'.ownsRow w.heap.size 3 1 v1 (y :: tl).length (nums .i64 (y :: tl)) ∧ Below w.heap.size w w' := by
  obtain ⟨N, hN⟩ : ∃ N, N = (z :: y :: tl).length := ⟨_, rfl⟩
  have hN2 : (y :: tl).length = N - 1 := by rw [hN]; simp
  have hN1 : 2 ≤ N := by rw [hN]; simp
  rw [← hN] at hr hc hm ⊢
  rw [hN2]
  obtain ⟨ad, rfl, k0⟩ := hr.at_ 0 (by omega) (by omega)
  obtain ⟨ad1, e1, k1⟩ := hr.at_ 1 (by omega) (by omega)
  obtain rfl := Option.some.inj e1
  have h0 : ((N : Int) == 0) = false := beq_eq_false_iff_ne.2 (by omega)
  have h1 : ((N : Int) == 1) = false := beq_eq_false_iff_ne.2 (by omega)
  obtain ⟨i3, hi3, hs3⟩ := info3'
  obtain ⟨j3, hj3, hz0, hz1, hz2⟩ := info_parts info3
  have hcut : ∀ W : World, (Instr.slice 32 (.slice (some ad) N c) (some (.int .i64 1)) none none).run Try.prog W = .ok (.slice (some (ad.add 1)) (N - 1) (c - 1)) W := by
    have := cut_from (P := Try.prog) 32 3 .i64 Try.underlying32 hi3 1 hs3 (some ad) N c 1 (by omega) (by omega)
    rw [if_neg (by simp; omega)] at this
    exact this
  have hrd : ReadsInt w .i64 (some (ad.add 1)) (N - 1) (y :: tl) := by
    have := hr.drop_ 1 (by omega) hc
    rw [if_neg (by omega)] at this
    exact this
  have HR := Aside0.mk hrd
  have k0w : w.cell? ad = some (.int .i64 z) := by simpa [Addr.add, rd] using k0
  have k1w : w.cell? (ad.add 1) = some (.int .i64 y) := by simpa [rd] using k1
  have HX := Aside0.mk (World.block_lt_of_cell? w _ k0w)
  have HB := Aside0.mk (two_below w (.cells #[.slice (some ad) N c] 36) (.cells #[.slice none 0 0] 36))
  have k0' := pw_cell_below HB.out k0w
  have k2 : ((w.alloc (.cells #[.slice (some ad) N c] 36)).alloc (.cells #[.slice none 0 0] 36)).cell? ⟨ad.block, ad.off + 1, none⟩ = some (.int .i64 y) := by have := pw_cell_below HB.out k1w; simpa [Addr.add] using this
  have k3 : ((w.alloc (.cells #[.slice (some ad) N c] 36)).alloc (.cells #[.slice none 0 0] 36)).cell? ⟨w.heap.size, 0, none⟩ = some (.slice (some ad) N c) := (blk_cell (two_first _ _ _) 0).trans rfl
  have HK4 := Aside0.mk (two_new w (.cells #[.slice (some ad) N c] 36) (.cells #[.slice none 0 0] 36))
  have HZ := Aside0.mk (show ((w.alloc (.cells #[.slice (some ad) N c] 36)).alloc (.cells #[.slice none 0 0] 36)).heap.size = w.heap.size + 2 by simp)
  have HJ := Aside0.mk (And.intro hj3 (And.intro hz0 (And.intro hz1 hz2)))
  have HN := Aside0.mk (And.intro hN2 hm)
  have b0 : (0 : Int) ≤ 1 := by omega
  have b1 : (1 : Int) < (N : Int) := by omega
  have b2 : (1 : Int) ≤ (N : Int) := by omega
  clear hr k0 e1 k1 hrd hi3 hs3 hj3 hz0 hz1 hz2 k0w k1w hN hN2 hm hc
  go_enter Try.func22, Try.ntmps22
  go_wp2
  generalize ((w.alloc (.cells #[.slice (some ad) N c] 36)).alloc (.cells #[.slice none 0 0] 36)) = w2 at k0' k2 k3 HB HK4 HZ ⊢
  go_region_held3 (fun w' => w'.cell? ⟨w.heap.size, 0, none⟩ = some (.slice (some ad) N c) ∧ w'.cell? ⟨ad.block, ad.off + 1, none⟩ = some (.int .i64 y))
    (first
      | (go_keep; done)
      | (go_split_ands
         refine ⟨?_, ?_⟩
         · (rw [World.cell?_setCell_far _ _ _ _ (by have := HX.out; simp)]; assumption)
         · (rw [World.cell?_setCell_far _ _ _ _ (by have := HX.out; simp; omega)]; assumption))
      | (go_split_ands
         refine ⟨?_, ?_⟩
         · (rw [hgrow.cell_far _ (by have := HZ.out; simp; omega) (by have := HZ.out; simp [Value.ownBlock]; omega)]; assumption)
         · (rw [hgrow.cell_far _ (by have := HZ.out; have := HX.out; simp; omega) (by have := HZ.out; have := HX.out; simp [Value.ownBlock]; omega)]; assumption)))
    ((refine step_append_lies _ (by rfl) _ _ _ (by rfl) w.heap.size 3 j3 _ 1 8 Try.underlying32 HJ.out.1 HJ.out.2.1 HJ.out.2.2.1 HJ.out.2.2.2 rfl (by omega) _ 0 [] (by rfl) (own_new0 w2 w.heap.size HB.out.size)
        (ad.add 1) (N - 1) (c - 1) (nums .i64 (y :: tl)) (by rfl) (by rw [nums_length, HN.out.1, Nat.mul_one]) (news_of_reads HR.out (below_drew (below_alloc HB.out _))) (by intro u hu; simp only [nums, List.mem_map] at hu; obtain ⟨q, _, rfl⟩ := hu; rfl)
        (by omega) (by have := HN.out.2; unfold maxLen; omega) (by have := HN.out.2; omega) (by have := HZ.out; simp; omega) (w2.heap.size + 1) (by simp) ?_; intro gg cap w1 hown1 hgrow hat hlt; have HB4 := Aside0.mk (blk_grown (blk_drew (blk_alloc HK4.out (.cells #[] 3))) hgrow (by have := HZ.out; simp [Value.ownBlock]; omega)); have d4 := (blk_cell HB4.out 0).trans rfl; have f4 := blk_frozen HB4.out 0))
  rw [Nat.zero_add, List.nil_append] at hown1
  have HO := Aside0.mk hown1
  have HL := Aside0.mk ((below_drew (below_alloc HB.out (.cells #[] 3))).grown hgrow (by have := HB.out.size; simp; omega) (fun k hk => by have h1 := HB.out.size; simp [Value.ownBlock] at hk; omega))
  clear hown1 hgrow hat hlt
  go_wp2
  exact bodyPost_ret (results_ctt (P := Try.prog) rfl _ _ (w.heap.size + 1) 36 #[.slice (some ⟨gg, 0, none⟩) (N - 1) cap] (0, 0) _ rfl (by simpa using blk_set HB4.out 0 (.slice (some ⟨gg, 0, none⟩) (N - 1) cap)) Try.underlying36 rfl (by kernel_rfl)) rfl
    ⟨_, rfl, own_setCell HO.out (own_ne HO.out HB4.out (by decide)) _, HL.out.setCell (by simp) _⟩

/-- A lock's owner and who waits, in a row. -/
def Z (o : Int) (ws : List Int) : List Int := if o = -1 then [] else o :: ws

set_option maxHeartbeats 4000000 in
theorem same_none (B g : Nat) (v : Value) (c : Nat) (A : Option Addr) (w : World) (h : LockV B w g (-1) [] v) : Calls Try.prog 23 #[.pointer (some ⟨g, 0, none⟩), .agg #[.slice A 0 c]] w fun e w' =>
    e = .returned (.int .i64 0) ∧ Below w.heap.size w w' := by
  have H := Aside0.mk h
  clear h
  have HL := Aside0.mk (show LockV B (w.alloc (.cells #[.slice A 0 c] 36)) g (-1) [] v from ⟨H.out.1, blk_alloc H.out.2.1 _, H.out.2.2.alloc _⟩)
  have HK := Aside0.mk (blk_new w (.cells #[.slice A 0 c] 36))
  have HB := Aside0.mk (below_alloc (Below.refl w.heap.size w) (.cells #[.slice A 0 c] 36))
  go_enter Try.func23, Try.ntmps23
  go_wp2_with (first
    | (go_at_call 49; (with_reducible refine (waits_calls B g (-1) [] v _ HL.out (by simp)).mono ?_); rintro e w1 ⟨v1, rfl, ho, hb⟩; obtain ⟨A1, c1, rfl⟩ := own_slice ho; have HL1 := Aside0.mk (show LockV B w1 g (-1) [] v from ⟨HL.out.1, blk_below HL.out.2.1 hb, pw_own_below HL.out.2.2 hb⟩); have k3 := (blk_cell (blk_below HK.out hb) 0).trans rfl; have HB1 := Aside0.mk (below_step HB.out hb); clear ho hb)
    | (go_at_call 18; (with_reducible refine (owner_v B g (-1) [] v w1 HL1.out).mono ?_); rintro e w2 ⟨rfl, rfl⟩))
  go_ret
  exact ⟨rfl, HB1.out⟩

set_option maxHeartbeats 4000000 in
theorem same_some (B g : Nat) (o : Int) (ws : List Int) (v : Value) (c : Nat) (A : Option Addr) (w : World) (h : LockV B w g o ws v) (hl : ws.length ≤ 1000) (hr : ReadsInt w .i64 A (o :: ws).length (o :: ws)) : Calls Try.prog 23 #[.pointer (some ⟨g, 0, none⟩), .agg #[.slice A (o :: ws).length c]] w fun e w' =>
    e = .returned (.int .i64 0) ∧ Below w.heap.size w w' := by
  have H := Aside0.mk h
  obtain ⟨ad, rfl, k0⟩ := hr.at_ 0 (by omega) (by simp)
  have k0w : w.cell? ad = some (.int .i64 o) := by simpa [Addr.add, rd] using k0
  clear h k0
  have HR := Aside0.mk hr
  have HL := Aside0.mk (show LockV B (w.alloc (.cells #[.slice (some ad) (ws.length + 1) c] 36)) g o ws v from ⟨H.out.1, blk_alloc H.out.2.1 _, H.out.2.2.alloc _⟩)
  have HK := Aside0.mk (blk_new w (.cells #[.slice (some ad) (ws.length + 1) c] 36))
  have HB := Aside0.mk (below_alloc (Below.refl w.heap.size w) (.cells #[.slice (some ad) (ws.length + 1) c] 36))
  have hl0 := len_ne ws.length
  have K0 := Aside0.mk k0w
  have HS := Aside0.mk hl
  clear hr k0w hl
  go_enter Try.func23, Try.ntmps23
  go_wp2_with (first
    | (go_at_call 49; (with_reducible refine (waits_calls B g o ws v _ HL.out HS.out).mono ?_); rintro e w1 ⟨v1, rfl, ho, hb⟩; obtain ⟨A1, c1, rfl⟩ := own_slice ho; have HL1 := Aside0.mk (show LockV B w1 g o ws v from ⟨HL.out.1, blk_below HL.out.2.1 hb, pw_own_below HL.out.2.2 hb⟩); have k3 := (blk_cell (blk_below HK.out hb) 0).trans rfl; have HB1 := Aside0.mk (below_step HB.out hb); have k4 := pw_cell_below HB1.out K0.out; have HO1 := Aside0.mk ho; clear ho hb))
  have e1 : IntKind.i64.wrap ((ws.length : Int) + 1 - 1) = (ws.length : Int) := by have := HS.out; rw [IntKind.wrap_i64]; omega
  have e2 : IntKind.i64.wrap ((ws.length : Int)) = (ws.length : Int) := by have := HS.out; clear e1; rw [IntKind.wrap_i64]; omega
  have b0 : (0 : Int) < (ws.length : Int) + 1 := by clear e1 e2; omega
  go_quiet ((go_at_call 18; exact Calls.quiet_of_same (owner_calls B g o ws _ (LockV.is (LockV.drewN HL1.out _)))))
  have HR2 := Aside0.mk (HR.out.below (pw_below_drewN HB1.out nq))
  have HW2 := Aside0.mk (own_reads_of' (enc := Value.int .i64) (d := (0 : Int)) (show (w1.drewN nq).ownsRow _ 3 1 (.slice A1 ws.length c1) ws.length (nums .i64 ws) from HO1.out))
  have HB2 := Aside0.mk (pw_below_drewN HB1.out nq)
  have k3' : (w1.drewN nq).cell? ⟨w.heap.size, 0, none⟩ = some (.slice (some ad) (ws.length + 1) c) := by rw [World.cell?_drewN]; exact k3
  generalize w1.drewN nq = w2 at HR2 HW2 HB2 k3' ⊢
  clear e1 e2 b0 k3 k4
  go_wp2
  go_loop [40] (fun i => ∃ k : Nat, k ≤ ws.length ∧ i = .int .i64 k) (fun i => ws.length - (intOf i).toNat)
  case atStart => exact ⟨0, by omega, rfl⟩
  case round =>
    obtain ⟨k, hk, rfl⟩ := hrel
    by_cases hlt : k < ws.length
    · have q1 : decide ((k : Int) < (ws.length : Int)) = true := decide_eq_true (by omega)
      obtain ⟨ad0, e0, k0⟩ := HW2.out.at_ (k : Int) (by omega) (by omega)
      subst e0
      obtain ⟨ad1, e1, k5⟩ := HR2.out.at_ ((k : Int) + 1) (by omega) (by simp; omega)
      obtain rfl := Option.some.inj e1
      rw [Int.toNat_natCast] at k0
      have hrd : rd (o :: ws) ((k : Int) + 1) = rdOf (0 : Int) ws (k : Int) := by
        simp only [rd, rdOf, Int.toNat_natCast]
        rw [show ((k : Int) + 1).toNat = k + 1 by omega]
        simp
      rw [hrd, show ((k : Int) + 1).toNat = k + 1 by omega] at k5
      have k6 : w2.cell? ⟨ad.block, ad.off + (k + 1), none⟩ = some (.int .i64 (rdOf (0 : Int) ws (k : Int))) := by simpa [Addr.add] using k5
      generalize rdOf (0 : Int) ws (k : Int) = y at k0 k5 k6
      have hs := HS.out
      clear hrd e1
      go_wp2
      exact ⟨⟨k + 1, by omega, by go_num⟩, by simp [intOf]; omega⟩
    · have q1 : decide ((k : Int) < (ws.length : Int)) = false := decide_eq_false (by omega)
      go_wp2
      go_ret
      exact ⟨rfl, HB2.out⟩
end Go.Proofs.Ythdnlhcepndncaa.Locks

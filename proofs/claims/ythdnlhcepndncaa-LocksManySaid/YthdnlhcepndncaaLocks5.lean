import Derived.Test.YthdnlhcepndncaaLocks4
namespace Go.Proofs.Ythdnlhcepndncaa.Locks
open Go.RowKit Go.Proofs.YthdnlhcepndncaaW.PrintWords Go.Proofs.YthdnlhcepndncaaW.PrintLast Go.Proofs.YthdnlhcepndncaaW.PrintMore
set_option linter.unusedVariables false
set_option linter.unusedSimpArgs false

theorem lock_tab {B g b n : Nat} {o : Int} {ws : List Int} {c : Int → Int} {w w' : World} (h : IsLock B w g o ws) (ht : IsTab w b n c) (hg : w.grownBy w' (some b)) : IsLock B w' g o ws := by
  obtain ⟨hB, v, hb, ho⟩ := h
  obtain ⟨D, _, ⟨es, cl, hm, _⟩, _⟩ := ht
  refine ⟨hB, v, blk_grown hb hg ?_, own_other ho hg ?_⟩
  · intro he
    injection he with he
    subst he
    rw [hb] at hm; cases hm
  · rcases ho.2 with ⟨rfl, _⟩ | ⟨g2, cap, cur, rfl, _, hh, _⟩
    · exact Or.inl rfl
    · refine Or.inr ?_
      intro he
      have : g2 = b := by simpa [Value.ownBlock] using he
      subst this
      rw [hm] at hh; cases hh
theorem lock_below {B g : Nat} {o : Int} {ws : List Int} {w w' : World} (h : IsLock B w g o ws) (hb : Below w.heap.size w w') : IsLock B w' g o ws := by
  obtain ⟨hB, v, hh, ho⟩ := h
  exact ⟨hB, v, blk_below hh hb, pw_own_below ho hb⟩
theorem lit_wf2 (k : Int) (h0 : -1000 ≤ k) (h1 : k ≤ 1000) : (Lit.int .i64 k).wf = true := by
  have e1 : IntKind.i64.min = -9223372036854775808 := by decide
  have e2 : IntKind.i64.max = 9223372036854775807 := by decide
  simp only [Lit.wf, e1, e2, Bool.and_eq_true, decide_eq_true_eq]
  omega

theorem tab_mono {w : World} {b n n' : Nat} {c : Int → Int} (h : IsTab w b n c) (hn : n ≤ n') : IsTab w b n' c := by
  obtain ⟨D, h1, h2, h3⟩ := h
  exact ⟨D, h1, h2.mono hn, h3⟩

/-- What holds at the head of every round of LocksMany. -/
def ManyInv (xs : List Bool) (ys : List Int) (w : World) (g mb : Nat) (v7 v8 : Value) (wr : World) : Prop :=
  ∃ (i : Nat) (o : Int) (ws : List Int) (c : Int → Int), i ≤ 60 ∧ i ≤ xs.length ∧ i ≤ ys.length ∧ v7 = .int .i64 o ∧ v8 = .int .i64 i ∧ IsLock w.heap.size wr g o ws ∧ IsTab wr mb i c ∧ Below w.heap.size w wr ∧ ws.length ≤ i ∧
    (∀ k : Int, 0 ≤ k → k ≤ 7 → c k = (ws.count k : Nat)) ∧ (∀ x ∈ ws, 0 ≤ x ∧ x ≤ 7)

set_option maxHeartbeats 4000000 in
set_option maxRecDepth 100000 in
theorem many_calls (A0 A1 : Option Addr) (c0 c1 : Nat) (xs : List Bool) (ys : List Int) (w : World) (h0 : ReadsOf Value.bool false w A0 xs.length xs) (h1 : ReadsOf (Value.int .i64) 0 w A1 ys.length ys) :
    Calls Try.prog 4 #[.slice A0 xs.length c0, .slice A1 ys.length c1] w fun e w' => e = .returned (.bool true) ∧ Below w.heap.size w w' := by
  have HR0 := Aside0.mk h0
  have HR1 := Aside0.mk h1
  clear h0 h1
  have hmk : ∀ W : World, (Instr.makeMap 33 none).run Try.prog W = .ok (.map (some W.heap.size)) (W.alloc (.map #[] 0)) := fun W => run_makeMap 33 W
  go_enter Try.func4, Try.ntmps4
  go_wp2_with (first
    | (go_at_call 15; with_reducible refine (awake_calls w).mono ?_; rintro e w1 ⟨rfl, hb⟩; have HB1 := Aside0.mk hb; clear hb)
    | (go_at_call 16; refine (new_calls w.heap.size w1 HB1.out.size).mono ?_; rintro e w2 ⟨g, rfl, hl, hb⟩; have HL2 := Aside0.mk hl; have HB2 := Aside0.mk (below_step HB1.out hb); clear hl hb))
  clear hmk
  have HT2 := Aside0.mk (tab_made w2)
  have HL3 := Aside0.mk (lock_below HL2.out (below_alloc (Below.refl _ _) (.map #[] 0)))
  have HB3 := Aside0.mk (below_alloc HB2.out (.map #[] 0))
  have HG3 := Aside0.mk HB2.out.size
  clear HL2 HB2
  generalize w2.alloc (.map #[] 0) = w3 at HT2 HL3 HB3 ⊢
  generalize w2.heap.size = mb at HT2 HG3 ⊢
  go_loopw [7, 8] (fun v7 v8 W => ManyInv xs ys w g mb v7 v8 W) (fun _ v _ => 60 - (intOf v).toNat)
  case atStart => exact ⟨0, -1, [], fun _ => 0, by omega, Nat.zero_le _, Nat.zero_le _, rfl, rfl, HL3.out, HT2.out, HB3.out, Nat.le_refl _, fun _ _ _ => by simp, fun _ h => by simp at h⟩
  case round =>
    obtain ⟨i, o, ws, c, hi, hix, hiy, rfl, rfl, hL, hT, hB, hl, hc, hw⟩ := hrel
    have HL := Aside0.mk hL
    have HT := Aside0.mk hT
    have HB := Aside0.mk hB
    have HC := Aside0.mk hc
    have HW := Aside0.mk hw
    clear hL hT hB hc hw HL3 HT2 HB3
    by_cases hx : i < xs.length
    · by_cases hy : i < ys.length
      · by_cases h60 : i < 60
        · obtain ⟨ad0, e0, k0⟩ := (HR0.out.below HB.out).at_ (i : Int) (by omega) (by omega)
          obtain ⟨ad1, e1, k1⟩ := (HR1.out.below HB.out).at_ (i : Int) (by omega) (by omega)
          subst e0
          subst e1
          rw [Int.toNat_natCast] at k0 k1
          generalize rdOf false xs (i : Int) = t at k0
          generalize rdOf 0 ys (i : Int) = y at k1
          obtain ⟨q, hq0, hq7, hq⟩ : ∃ q : Int, 0 ≤ q ∧ q ≤ 7 ∧ Go.bits .and .i64 y 7 = q := ⟨y % 8, by omega, by omega, i64_and7 y⟩
          have q1 : decide ((i : Int) < (xs.length : Int)) = true := decide_eq_true (by omega)
          have q2 : decide ((i : Int) < (ys.length : Int)) = true := decide_eq_true (by omega)
          have q3 : decide ((i : Int) < 60) = true := decide_eq_true (by omega)
          have hlk := tab_lookup HT.out q hq0 hq7
          cases t with
          | true =>
            by_cases hcq : 0 < c q
            · have p1 : decide (0 < c q) = true := decide_eq_true hcq
              go_wp2
              exact ⟨⟨i + 1, o, ws, c, by omega, by omega, by omega, rfl, by go_num, HL.out, tab_mono HT.out (by omega), HB.out, by omega, HC.out, HW.out⟩, by simp [intOf]; omega⟩
            · have p1 : decide (0 < c q) = false := decide_eq_false hcq
              clear hcq
              by_cases hoq : o = q
              · have p2 : (o == q) = true := by simpa using hoq
                clear hoq
                go_wp2
                exact ⟨⟨i + 1, o, ws, c, by omega, by omega, by omega, rfl, by go_num, HL.out, tab_mono HT.out (by omega), HB.out, by omega, HC.out, HW.out⟩, by simp [intOf]; omega⟩
              · have p2 : (o == q) = false := by simpa using hoq
                clear hoq
                have HS := Aside0.mk (show ws.length ≤ 1000 by omega)
                by_cases ho : o = -1
                · subst ho
                  go_wp2_with (first
                    | (go_at_call 17; with_reducible refine (take_calls' w.heap.size g (-1) q ws wr HL.out HS.out HB.out.size).mono ?_; rintro e w4 ⟨rfl, hl4, hb4, hm4⟩; have HL4 := Aside0.mk hl4; have HB4 := Aside0.mk (HB.out.trans hb4); have HT4 := Aside0.mk (tab_stay HT.out hm4); clear hl4 hb4 hm4))
                  exact ⟨⟨i + 1, q, ws, c, by omega, by omega, by omega, rfl, by go_num, HL4.out, tab_mono HT4.out (by omega), HB4.out, by omega, HC.out, HW.out⟩, by simp [intOf]; omega⟩
                · have p3 : (o == -1) = false := by simpa using ho
                  have HE := Aside0.mk (And.intro (if_neg ho : (if o = -1 then q else o) = o) (if_neg ho : (if o = -1 then ws else ws ++ [q]) = ws ++ [q]))
                  clear ho
                  have HCQ := Aside0.mk (HC.out q hq0 hq7)
                  have hcnt : ws.count q ≤ ws.length := List.count_le_length
                  have HCR := Aside0.mk (show 0 ≤ c q ∧ c q ≤ 60 by rw [HCQ.out]; omega)
                  have wc : wrap64 (c q + 1) = c q + 1 := by have := HCR.out; simp only [wrap64]; omega
                  have HWc := Aside0.mk (show (Lit.int .i64 (wrap64 (c q + 1))).wf = true by rw [wc]; exact lit_wf2 _ (by have := HCR.out; clear wc; omega) (by have := HCR.out; clear wc; omega))
                  have HWq := Aside0.mk wc
                  have HI := Aside0.mk (show i < 1000 by clear wc; omega)
                  clear hcnt wc
                  go_wp2_with (first
                    | (go_at_call 17; with_reducible refine (take_calls' w.heap.size g o q ws wr HL.out HS.out HB.out.size).mono ?_; rintro e w4 ⟨rfl, hl4, hb4, hm4⟩; rw [HE.out.1, HE.out.2] at hl4; have HL4 := Aside0.mk hl4; have HB4 := Aside0.mk (HB.out.trans hb4); have HT4 := Aside0.mk (tab_stay HT.out hm4); clear hl4 hb4 hm4; have hlk4 := tab_lookup HT4.out q hq0 hq7)
                    | (at_mapUpdate; refine tab_update w4 rfl _ _ _ rfl mb i c rfl HT4.out HI.out q _ rfl rfl hq0 hq7 HWc.out ?_; intro w5 ht5 hg5; rw [HWq.out] at ht5; have HT5 := Aside0.mk ht5; have HL5 := Aside0.mk (lock_tab HL4.out HT4.out hg5); have HB5 := Aside0.mk (HB4.out.grown hg5 HB4.out.size (fun k hk => by cases hk; exact HG3.out)); clear ht5 hg5 hlk4 hlk))
                  refine ⟨⟨i + 1, o, ws ++ [q], _, by omega, by omega, by omega, rfl, by go_num, HL5.out, HT5.out, HB5.out, by simp; omega, fun k h0 h1 => ?_, fun x hx => ?_⟩, by simp [intOf]; omega⟩
                  · rw [List.count_append]
                    by_cases hk : k = q
                    · subst hk
                      show (if k = k then c k + 1 else c k) = _
                      rw [if_pos rfl, HC.out k h0 h1]; simp
                    · show (if k = q then c q + 1 else c k) = _
                      rw [if_neg hk, HC.out k h0 h1, List.count_singleton, if_neg (by simpa using fun h => hk h.symm)]; simp
                  · rcases List.mem_append.1 hx with h | h
                    · exact HW.out x h
                    · have : x = q := by simpa using h
                      omega
          | false =>
            have HS := Aside0.mk (show ws.length ≤ 1000 by omega)
            by_cases hoq : o = q
            · subst hoq
              have hne : ¬ o = -1 := by omega
              obtain ⟨y1, y2, y3, y4⟩ := g_yes ws hne
              have E1 := Aside0.mk y1
              have E2 := Aside0.mk y2
              have E3 := Aside0.mk y3
              have E4 := Aside0.mk y4
              clear hne y1 y2 y3 y4
              cases ws with
              | nil =>
                go_wp2_with (first
                  | (go_at_call 19; with_reducible refine (give_calls' w.heap.size g o o [] wr HL.out HS.out HB.out.size).mono ?_; rintro e w4 ⟨rfl, hl4, hb4, hm4⟩; rw [E3.out, E4.out] at hl4; rw [E1.out, E2.out]; simp only [List.headD_nil, List.tail_nil] at hl4 ⊢; have HL4 := Aside0.mk hl4; have HB4 := Aside0.mk (HB.out.trans hb4); have HT4 := Aside0.mk (tab_stay HT.out hm4); clear hl4 hb4 hm4)
                  | (go_at_call 18; with_reducible refine (owner_calls w.heap.size g (-1) [] w4 HL4.out).mono ?_; rintro e w5 ⟨rfl, hw5⟩; subst hw5))
                exact ⟨⟨i + 1, -1, [], c, by omega, by omega, by omega, rfl, by go_num, HL4.out, tab_mono HT4.out (by omega), HB4.out, by simp, HC.out, HW.out⟩, by simp [intOf]; omega⟩
              | cons x tl =>
                have hxr := HW.out x (by simp)
                have hx0 := hxr.1
                have hx7 := hxr.2
                clear hxr
                have p3 : (x != -1) = true := by simp; omega
                have p4 : (x == -1) = false := by simp; omega
                have HCQ := Aside0.mk (HC.out x hx0 hx7)
                have hcnt : (x :: tl).count x ≤ (x :: tl).length := List.count_le_length
                have HCR := Aside0.mk (show 0 ≤ c x ∧ c x ≤ 60 by rw [HCQ.out]; omega)
                have wc : wrap64 (c x - 1) = c x - 1 := by have := HCR.out; simp only [wrap64]; omega
                have HWc := Aside0.mk (show (Lit.int .i64 (wrap64 (c x - 1))).wf = true by rw [wc]; exact lit_wf2 _ (by have := HCR.out; clear wc; omega) (by have := HCR.out; clear wc; omega))
                have HWq := Aside0.mk wc
                have HI := Aside0.mk (show i < 1000 by clear wc; omega)
                clear hcnt wc
                go_wp2_with (first
                  | (go_at_call 19; with_reducible refine (give_calls' w.heap.size g o o (x :: tl) wr HL.out HS.out HB.out.size).mono ?_; rintro e w4 ⟨rfl, hl4, hb4, hm4⟩; rw [E3.out, E4.out] at hl4; rw [E1.out, E2.out]; simp only [List.headD_cons, List.tail_cons] at hl4 ⊢; have HL4 := Aside0.mk hl4; have HB4 := Aside0.mk (HB.out.trans hb4); have HT4 := Aside0.mk (tab_stay HT.out hm4); clear hl4 hb4 hm4; have hlk4 := tab_lookup HT4.out x hx0 hx7)
                  | (at_mapUpdate; refine tab_update w4 rfl _ _ _ rfl mb i c rfl HT4.out HI.out x _ rfl rfl hx0 hx7 HWc.out ?_; intro w5 ht5 hg5; rw [HWq.out] at ht5; have HT5 := Aside0.mk ht5; have HL5 := Aside0.mk (lock_tab HL4.out HT4.out hg5); have HB5 := Aside0.mk (HB4.out.grown hg5 HB4.out.size (fun k hk => by cases hk; exact HG3.out)); clear ht5 hg5 hlk4 hlk)
                  | (go_at_call 18; with_reducible refine (owner_calls w.heap.size g x tl w5 HL5.out).mono ?_; rintro e w6 ⟨rfl, hw6⟩; subst hw6))
                clear p3 p4
                refine ⟨⟨i + 1, x, tl, _, by omega, by omega, by omega, rfl, by go_num, HL5.out, HT5.out, HB5.out, by simp at hl; omega, fun k h0 h1 => ?_, fun z hz => HW.out z (List.mem_cons_of_mem _ hz)⟩, by simp [intOf]; omega⟩
                by_cases hk : k = x
                · subst hk
                  show (if k = k then c k - 1 else c k) = _
                  rw [if_pos rfl, HCQ.out, List.count_cons_self]; omega
                · show (if k = x then c x - 1 else c k) = _
                  rw [if_neg hk, HC.out k h0 h1, List.count_cons_of_ne (fun h => hk h.symm)]
            · obtain ⟨n1, n2, n3, n4⟩ := g_no (o := o) (x := q) ws (Or.inr hoq)
              have A1 := Aside0.mk n1
              have A2 := Aside0.mk n2
              have A3 := Aside0.mk n3
              have A4 := Aside0.mk n4
              have p2 : (o == q) = false := by simpa using hoq
              clear n1 n2 n3 n4 hoq
              go_wp2_with (first
                | (go_at_call 19; with_reducible refine (give_calls' w.heap.size g o q ws wr HL.out HS.out HB.out.size).mono ?_; rintro e w4 ⟨rfl, hl4, hb4, hm4⟩; rw [A3.out, A4.out] at hl4; rw [A1.out, A2.out]; have HL4 := Aside0.mk hl4; have HB4 := Aside0.mk (HB.out.trans hb4); have HT4 := Aside0.mk (tab_stay HT.out hm4); clear hl4 hb4 hm4)
                | (go_at_call 18; with_reducible refine (owner_calls w.heap.size g o ws w4 HL4.out).mono ?_; rintro e w5 ⟨rfl, hw5⟩; subst hw5))
              exact ⟨⟨i + 1, o, ws, c, by omega, by omega, by omega, rfl, by go_num, HL4.out, tab_mono HT4.out (by omega), HB4.out, by omega, HC.out, HW.out⟩, by simp [intOf]; omega⟩
        · have q1 : decide ((i : Int) < (xs.length : Int)) = true := decide_eq_true (by omega)
          have q2 : decide ((i : Int) < (ys.length : Int)) = true := decide_eq_true (by omega)
          have q3 : decide ((i : Int) < 60) = false := decide_eq_false (by omega)
          go_wp2
          go_ret
          exact ⟨rfl, HB.out⟩
      · have q1 : decide ((i : Int) < (xs.length : Int)) = true := decide_eq_true (by omega)
        have q2 : decide ((i : Int) < (ys.length : Int)) = false := decide_eq_false (by omega)
        go_wp2
        go_ret
        exact ⟨rfl, HB.out⟩
    · have q1 : decide ((i : Int) < (xs.length : Int)) = false := decide_eq_false (by omega)
      go_wp2
      go_ret
      exact ⟨rfl, HB.out⟩
end Go.Proofs.Ythdnlhcepndncaa.Locks

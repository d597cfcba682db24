/- Programs that may be, and what both checks tell of them. -/
import Derived.Test.YthlllcmffgdcmabZSome1
section
namespace Go.Proofs.Ythlllcmffgdcmab.Code
open Go.RowKit Go.Proofs.YthlllcmffgdcmabW.PrintWords Go.Proofs.YthlllcmffgdcmabW.PrintLast Go.Proofs.YthlllcmffgdcmabW.PrintMore
open Go.Proofs.Ythlllcmffgdcmab.PCodeChecks
set_option linter.unusedVariables false
set_option linter.unusedSimpArgs false
theorem awake_calls (w : World) : Calls Try.prog 50 #[] w fun e w' => e = .returned (.bool true) ∧ Below w.heap.size w w' := by
  have h1 : Ev (fun k => code_Program_Check.f k [[(⟨0, 0, 0, 0⟩ : S76)]] [] 0 []) (0, 0, 0, true) := by
    have h := ok_check (L0 := [[⟨0, 0, 0, 0⟩]]) (L1 := []) (locks := 0) (L3 := []) ⟨by decide, by decide, by decide, by decide, fun i h => absurd h (by simp), fun i h => absurd h (by simp), fun i h => by
      have : i = 0 := by simpa using h
      subst this
      decide, fun i h j hj => by
      have : i = 0 := by simpa using h
      subst this
      have : j = 0 := by simpa [rd_L5] using hj
      subst this
      exact z0_0 _ _ _ _ _⟩
    exact h
  have h2 : Ev (fun k => code_Program_Check.f k ([] : List (List S76)) [] 0 []) (-1, -1, 3, false) := by
    refine ⟨3, fun k hk => ?_⟩
    obtain ⟨n, rfl⟩ : ∃ n, k = n + 3 := ⟨k - 3, by omega⟩
    rfl
  obtain ⟨K1, h1⟩ := h1
  obtain ⟨K2, h2⟩ := h2
  refine shunterlaw10_awake.calls (K1 + K2) true w ?_
  unfold shunterlaw10_awake.f
  have e1 : code_Program_Check.f (K1 + K2) [[(⟨0, 0, 0, 0⟩ : S76)]] [] 0 [] = _ := h1 (K1 + K2) (by omega)
  have e2 : code_Program_Check.f (K1 + K2) ([] : List (List S76)) [] 0 [] = _ := h2 (K1 + K2) (by omega)
  rw [e1, e2]
  rfl
theorem both (L0 : List (List S128)) (L1 : List Int) (locks : Int) (L3 : List S134) (h0 : L0.length ≤ 5864062014805) (hr : ∀ f ∈ L0, f.length ≤ 4398046511104) (h1 : L1.length < 17592186044416) (h3 : L3.length ≤ 5864062014805) :
    ∃ a b e : Int,
      (∀ (A0 A1 A3 : Option Addr) (c0 c1 c3 : Nat) (w : World), Kd.C (Kd.slice 128 k128) w A0 L0.length L0 → L0.length ≤ c0 → Kd.C (Kd.int .i64) w A1 L1.length L1 → L1.length ≤ c1 → Kd.C k134 w A3 L3.length L3 → L3.length ≤ c3 →
        Calls Try.prog 55 #[.agg #[.slice A0 L0.length c0, .slice A1 L1.length c1, .int .i64 locks, .slice A3 L3.length c3]] w fun x w' => x = .returned (.tuple #[.int .i64 a, .int .i64 b, .int .i64 e]) ∧ Below w.heap.size w w') ∧
      (∀ (A0 A1 A3 : Option Addr) (c0 c1 c3 : Nat) (w : World), Kd.C (Kd.slice 128 k128) w A0 L0.length L0 → L0.length ≤ c0 → Kd.C (Kd.int .i64) w A1 L1.length L1 → L1.length ≤ c1 → Kd.C k134 w A3 L3.length L3 → L3.length ≤ c3 →
        Calls Try.prog 52 #[.agg #[.slice A0 L0.length c0, .slice A1 L1.length c1, .int .i64 locks, .slice A3 L3.length c3]] w fun x w' => ∃ v0 v1 v3 : Value, x = .returned (.agg #[v0, v1, .int .i64 locks, v3]) ∧ Below w.heap.size w w' ∧
          (∀ w2, w2 = w' → Calls Try.prog 53 #[.agg #[v0, v1, .int .i64 locks, v3]] w2 fun x w3 => x = .returned (.tuple #[.agg #[.int .i64 a, .int .i64 b, .int .i64 e], .bool (e == 0)]) ∧ Below w2.heap.size w2 w3)) ∧
      (Ok L0 L1 locks L3 → a = 0 ∧ b = 0 ∧ e = 0) := by
  obtain ⟨a, b, e, ⟨K1, g1⟩, hc⟩ := check_same L0 L1 locks L3
  have hok : Ok L0 L1 locks L3 → a = 0 ∧ b = 0 ∧ e = 0 := fun h => by
    have := Ev.uniq hc (ok_check h)
    injection this with ha this
    injection this with hb this
    injection this with he _
    exact ⟨ha, hb, he⟩
  obtain ⟨K2, g2⟩ := hc
  obtain ⟨K3, g3⟩ := own_f L0 L1 locks L3 h0 hr h1 h3
  refine ⟨a, b, e, fun A0 A1 A3 c0 c1 c3 w r0 l0 r1 l1 r3 l3 => shunterref10_Check.calls K1 A0 c0 L0 A1 c1 L1 locks A3 c3 L3 a b e w r0 l0 r1 l1 r3 l3 (g1 K1 (Nat.le_refl _)), fun A0 A1 A3 c0 c1 c3 w r0 l0 r1 l1 r3 l3 => (shunterlaw10_Own.calls K3 A0 c0 L0 A1 c1 L1 locks A3 c3 L3 _ _ _ _ w r0 l0 r1 l1 r3 l3 (g3 K3 (Nat.le_refl _))).mono ?_, hok⟩
  rintro x w' ⟨v0, v1, v3, rfl, s0, s1, s3, hb⟩
  refine ⟨v0, v1, v3, rfl, hb, ?_⟩
  rintro _ rfl
  obtain ⟨B0, d0, rfl⟩ := Kd.S_slice s0
  obtain ⟨B1, d1, rfl⟩ := Kd.R_slice s1
  obtain ⟨B3, d3, rfl⟩ := Kd.R_slice s3
  obtain ⟨-, i0, q0⟩ := Kd.S_reads' s0
  obtain ⟨-, i1, q1⟩ := Kd.R_reads' s1
  obtain ⟨-, i3, q3⟩ := Kd.R_reads' s3
  exact code_Program_Check.calls K2 B0 d0 _ B1 d1 L1 locks B3 d3 _ a b e (e == 0) _ q0 i0 q1 i1 q3 i3 (g2 K2 (Nat.le_refl _))
structure QL (w wx : World) (gq : Nat) (v0 v1 : Value) (lk : Int) (v3 : Value) (L0 : List (List S128)) (L1 : List Int) (L3 : List S134) : Prop where
  BQ : wx.heap[gq]? = some (.cells #[v0, v1, .int .i64 lk, v3] 112 (0, 0))
  GQ : w.heap.size ≤ gq
  HB : Below w.heap.size w wx
  H0 : Kd.S (Kd.slice 128 k128) 125 wx w.heap.size (fun _ => True) v0 L0
  H1 : Kd.R (Kd.int .i64) 3 wx w.heap.size (fun _ => True) v1 L1
  H3 : Kd.R k134 134 wx w.heap.size (fun _ => True) v3 L3
section
variable {w wx w' : World} {gq : Nat} {v0 v1 v3 v' : Value} {lk : Int} {L0 : List (List S128)} {L1 : List Int} {L3 L' : List S134}
theorem QL.below (h : QL w wx gq v0 v1 lk v3 L0 L1 L3) (hb : Below wx.heap.size wx w') : QL w w' gq v0 v1 lk v3 L0 L1 L3 :=
  ⟨blk_below h.BQ hb, h.GQ, below_then h.HB h.HB.size hb, Kd.S_below h.H0 hb, Kd.R_below h.H1 hb, Kd.R_below h.H3 hb⟩
theorem QL.drew (h : QL w wx gq v0 v1 lk v3 L0 L1 L3) : QL w wx.drew gq v0 v1 lk v3 L0 L1 L3 := h.below (below_drew (Below.refl _ _))
theorem QL.box (h : QL w wx gq v0 v1 lk v3 L0 L1 L3) {g t : Nat} {cs : Array Value} (hb : wx.heap[g]? = some (.cells cs t (0, 0))) (hg : gq ≠ g) (hw : w.heap.size ≤ g) (h0 : ∀ q, q ∈ 125 :: (Kd.slice 128 k128).E → q ≠ t) (h1 : ∀ q, q ∈ 3 :: (Kd.int .i64).E → q ≠ t) (h3 : ∀ q, q ∈ 134 :: k134.E → q ≠ t) (j : Nat) (u : Value) : QL w (wx.setCell ⟨g, j, none⟩ u) gq v0 v1 lk v3 L0 L1 L3 :=
  ⟨blk_far (p := ⟨g, j, none⟩) h.BQ hg u, h.GQ, h.HB.setCell hw u, Kd.S_set h.H0 hb h0 j u, Kd.R_set h.H1 hb h1 j u, Kd.R_set h.H3 hb h3 j u⟩
theorem QL.mk4 {W : World} (h0 : Kd.S (Kd.slice 128 k128) 125 W w.heap.size (fun _ => True) v0 L0) (h1 : Kd.R (Kd.int .i64) 3 W w.heap.size (fun _ => True) v1 L1) (h3 : Kd.R k134 134 W w.heap.size (fun _ => True) v3 L3) (hb : Below w.heap.size w W) (hg : w.heap.size ≤ gq) (hB : W.heap[gq]? = some (.cells #[.slice none 0 0, .slice none 0 0, .int .i64 0, .slice none 0 0] 112 (0, 0))) :
    QL w ((((W.setCell ⟨gq, 0, none⟩ v0).setCell ⟨gq, 1, none⟩ v1).setCell ⟨gq, 2, none⟩ (.int .i64 lk)).setCell ⟨gq, 3, none⟩ v3) gq v0 v1 lk v3 L0 L1 L3 := by
  have b1 := blk_set hB 0 v0
  have b2 := blk_set b1 1 v1
  have b3 := blk_set b2 2 (.int .i64 lk)
  exact ⟨four_set hB _ _ _ _, hg, four_below hb hg _ _ _ _, Kd.S_set (Kd.S_set (Kd.S_set (Kd.S_set h0 hB (by decide) 0 _) b1 (by decide) 1 _) b2 (by decide) 2 _) b3 (by decide) 3 _, Kd.R_set (Kd.R_set (Kd.R_set (Kd.R_set h1 hB (by decide) 0 _) b1 (by decide) 1 _) b2 (by decide) 2 _) b3 (by decide) 3 _, Kd.R_set (Kd.R_set (Kd.R_set (Kd.R_set h3 hB (by decide) 0 _) b1 (by decide) 1 _) b2 (by decide) 2 _) b3 (by decide) 3 _⟩
theorem QL.locks (h : QL w wx gq v0 v1 lk v3 L0 L1 L3) (x : Int) : QL w (wx.setCell ⟨gq, 2, none⟩ (.int .i64 x)) gq v0 v1 x v3 L0 L1 L3 :=
  ⟨by simpa using blk_set h.BQ 2 (.int .i64 x), h.GQ, h.HB.setCell h.GQ _, Kd.S_set h.H0 h.BQ (by decide) 2 _, Kd.R_set h.H1 h.BQ (by decide) 2 _, Kd.R_set h.H3 h.BQ (by decide) 2 _⟩
theorem QL.mid3 (h : QL w wx gq v0 v1 lk v3 L0 L1 L3) (hg : wx.grownBy w' v3.ownBlock) : w'.heap[gq]? = some (.cells #[v0, v1, .int .i64 lk, v3] 112 (0, 0)) := blk_grown h.BQ hg (Kd.R_ne h.H3 h.BQ (by decide))
theorem QL.push3 (h : QL w wx gq v0 v1 lk v3 L0 L1 L3) (hg : wx.grownBy w' v3.ownBlock) (hb : Below w.heap.size w w') (ho : Kd.R k134 134 w' w.heap.size (fun _ => True) v' L') :
    QL w (w'.setCell ⟨gq, 3, none⟩ v') gq v0 v1 lk v' L0 L1 L' := by
  have hO := h.mid3 hg
  exact ⟨by simpa using blk_set hO 3 v', h.GQ, hb.setCell h.GQ v', Kd.S_set (Kd.S_over' h.H0 (Kd.R_typed h.H3) (by decide) hg) hO (by decide) 3 v', Kd.R_set (Kd.R_over' h.H1 (Kd.R_typed h.H3) (by decide) hg) hO (by decide) 3 v', Kd.R_set ho hO (by decide) 3 v'⟩
theorem QL.chan {g1 c1 : Nat} (h : QL w wx gq v0 (.slice (some ⟨g1, 0, none⟩) L1.length c1) lk v3 L0 L1 L3) (x : Int) : QL w (wx.setCell ⟨g1, 0, none⟩ (.int .i64 x)) gq v0 (.slice (some ⟨g1, 0, none⟩) (L1.set 0 x).length c1) lk v3 L0 (L1.set 0 x) L3 := by
  obtain ⟨hr, hg⟩ := Kd.R_put h.H1 0 x
  have e : (Value.slice (some ⟨g1, 0, none⟩) L1.length c1).ownBlock = some g1 := by simp [Value.ownBlock]
  have hg' : wx.grownBy (wx.setCell ⟨g1, 0, none⟩ (.int .i64 x)) (Value.slice (some ⟨g1, 0, none⟩) L1.length c1).ownBlock := by rw [e]; exact hg
  have hle : w.heap.size ≤ g1 := Kd.R_base h.H1 g1 e
  rw [List.length_set]
  exact ⟨blk_grown h.BQ hg' (Kd.R_ne h.H1 h.BQ (by decide)), h.GQ, h.HB.setCell hle _, Kd.S_over' h.H0 (Kd.R_typed h.H1) (by decide) hg', hr, Kd.R_over' h.H3 (Kd.R_typed h.H1) (by decide) hg'⟩
theorem QL.reads (h : QL w wx gq v0 v1 lk v3 L0 L1 L3) : ∃ A0 c0 A1 c1 A3 c3, v0 = .slice A0 L0.length c0 ∧ v1 = .slice A1 L1.length c1 ∧ v3 = .slice A3 L3.length c3 ∧ Kd.C (Kd.slice 128 k128) wx A0 L0.length L0 ∧ L0.length ≤ c0 ∧ Kd.C (Kd.int .i64) wx A1 L1.length L1 ∧ L1.length ≤ c1 ∧ Kd.C k134 wx A3 L3.length L3 ∧ L3.length ≤ c3 := by
  obtain ⟨A0, c0, e0, l0, r0⟩ := Kd.S_reads h.H0
  obtain ⟨A1, c1, e1, l1, r1⟩ := Kd.R_reads h.H1
  obtain ⟨A3, c3, e3, l3, r3⟩ := Kd.R_reads h.H3
  exact ⟨A0, c0, A1, c1, A3, c3, e0, e1, e3, r0, l0, r1, l1, r3, l3⟩
theorem QL.rd {A0 A1 A3 : Option Addr} {c0 c1 c3 : Nat} (h : QL w wx gq (.slice A0 L0.length c0) (.slice A1 L1.length c1) lk (.slice A3 L3.length c3) L0 L1 L3) : Kd.C (Kd.slice 128 k128) wx A0 L0.length L0 ∧ L0.length ≤ c0 ∧ Kd.C (Kd.int .i64) wx A1 L1.length L1 ∧ L1.length ≤ c1 ∧ Kd.C k134 wx A3 L3.length L3 ∧ L3.length ≤ c3 :=
  ⟨(Kd.S_reads' h.H0).2.2, (Kd.S_reads' h.H0).2.1, (Kd.R_reads' h.H1).2.2, (Kd.R_reads' h.H1).2.1, (Kd.R_reads' h.H3).2.2, (Kd.R_reads' h.H3).2.1⟩
end
end Go.Proofs.Ythlllcmffgdcmab.Code
end

import Derived.Test.YthlllcmffgdcmaaSpoilt0
namespace Go.Proofs.Ythlllcmffgdcmaa.Scan
open Go.RowKit Go.Proofs.Ythlllcmffgdcmaa.QSegmentOpens Go.Proofs.YthlllcmffgdcmaaW.PrintWords Go.Proofs.YthlllcmffgdcmaaW.PrintLast Go.Proofs.YthlllcmffgdcmaaW.PrintMore Go.Proofs.Ythlllcmffgdcmaa.LebPlain Go.Proofs.Ythlllcmffgdcmaa.LebWords Go.Proofs.Ythlllcmffgdcmaa.RecPlain Go.Proofs.Ythlllcmffgdcmaa.CrcPlain Go.Proofs.Ythlllcmffgdcmaa.SegPlain Go.Proofs.Ythlllcmffgdcmaa.SegLinkQSegmentOpens Go.Proofs.Ythlllcmffgdcmaa.Pure Go.Proofs.Ythlllcmffgdcmaa Go.Proofs.Ythlllcmffgdcmaa.Spoilt
set_option linter.unusedVariables false
set_option linter.unusedSimpArgs false

theorem open_at (s : ByteArray) (hs : s.size ≤ 1000000) (p : Nat) (w : World) :
    Calls Try.prog 31 #[.string s, .int .i64 (p : Int)] w fun e w' => e = .returned (.tuple #[.int .u64 (openR s (p : Int)).1, .string (openR s (p : Int)).2.1, .int .i64 (openR s (p : Int)).2.2.1, .int .i64 (openR s (p : Int)).2.2.2]) ∧ Below w.heap.size w w' := by
  have hf := open_f s (p : Int) hs 30 (by decide)
  exact segment_Open.calls 30 _ _ _ _ _ _ w hf

/-- How a scan ends: what stands next isn't a segment with the next number, or it isn't taken. -/
def Ends (s : ByteArray) (q p K : Nat) (caps : Array Value) (I J : World → Prop) : Prop :=
  (((openR s (p : Int)).2.2.2 ≠ 0 ∨ (openR s (p : Int)).1 ≠ (q : Int)) ∧ ∀ W, I W → J W) ∨
  (((openR s (p : Int)).2.2.2 = 0 ∧ (openR s (p : Int)).1 = (q : Int)) ∧ ∀ W, I W → Calls Try.prog K (#[.string (openR s (p : Int)).2.1, .int .i64 (openR s (p : Int)).2.2.1] ++ caps) W fun e W' => e = .returned (.bool false) ∧ J W')

set_option maxHeartbeats 4000000 in
set_option maxRecDepth 100000 in
theorem scan_calls (s : ByteArray) (hs : s.size ≤ 1000000) (seq n : Nat) (hseq : seq < 18446744073709551616) (E : Nat → Nat) (B : Nat → ByteArray) (hE0 : E 0 = 0)
    (hO : ∀ i, i < n → openR s (E i : Int) = ((((seq + i) % 18446744073709551616 : Nat) : Int), B i, (E (i + 1) : Int), 0)) (hE : ∀ i, i < n → E i < E (i + 1) ∧ E (i + 1) ≤ s.size)
    (K : Nat) (caps : Array Value) (hK : ∀ args W, (callFunc K args).run Try.prog W = .ok (.enter K args) W) (I : Nat → World → Prop) (J : World → Prop)
    (hI : ∀ i W W', I i W → Below W.heap.size W W' → I i W')
    (hsee : ∀ i, i < n → ∀ W, I i W → Calls Try.prog K (#[.string (B i), .int .i64 (E (i + 1) : Int)] ++ caps) W fun e W' => e = .returned (.bool true) ∧ I (i + 1) W')
    (hend : Ends s ((seq + n) % 18446744073709551616) (E n) K caps (I n) J) (w : World) (h0 : I 0 w) :
    Calls Try.prog 35 #[.string s, .int .u64 (seq : Int), .func (.func K) #[] caps] w fun e w' => e = .returned (.int .i64 (E n : Int)) ∧ J w' := by
  go_enter Try.func35, Try.ntmps35
  go_wp2
  go_loopw [7, 1] (fun x y wr => ∃ i : Nat, i ≤ n ∧ x = .int .i64 (E i : Int) ∧ y = .int .u64 (((seq + i) % 18446744073709551616 : Nat) : Int) ∧ I i wr) (fun x _ _ => s.size - (intOf x).toNat)
  case atStart =>
    refine ⟨0, Nat.zero_le _, by rw [hE0]; rfl, ?_, h0⟩
    rw [Nat.add_zero, Nat.mod_eq_of_lt hseq]
  case round =>
    obtain ⟨i, hi, rfl, rfl, hw⟩ := hrel
    have HW := Aside0.mk hw
    clear hw
    by_cases hin : i < n
    · have HS := Aside0.mk (hsee i hin)
      have HO := Aside0.mk (hO i hin)
      have HE := Aside0.mk (hE i hin)
      obtain ⟨p, hp⟩ : ∃ p, p = E i := ⟨_, rfl⟩
      have ey : (((seq : Int) + (i : Int)) % 18446744073709551616 + 1) % 18446744073709551616 = ((seq : Int) + ((i : Int) + 1)) % 18446744073709551616 := by omega
      go_wp2_with (first
        | (go_at_call 31; refine (open_at s hs _ wr).mono ?_; rw [HO.out]; rintro e w1 ⟨rfl, hb⟩; have B1 := Aside0.mk (hI i wr w1 HW.out hb); clear hb)
        | (refine (HS.out w1 B1.out).mono ?_; rintro e w2 ⟨rfl, hJ⟩; have H2 := Aside0.mk hJ; clear hJ))
      exact ⟨⟨i + 1, hin, rfl, by (simp; rw [IntKind.wrap_u64]; omega), H2.out⟩, by have := HE.out; simp [intOf]; omega⟩
    · obtain rfl : i = n := by omega
      have HD := Aside0.mk hend
      rcases hend with ⟨h1, h2⟩ | ⟨⟨h1, h1'⟩, h2⟩
      · obtain ⟨⟨m, b, p, er⟩, ho⟩ : ∃ r, openR s (E i : Int) = r := ⟨_, rfl⟩
        rw [ho] at h1
        simp only at h1
        have HO := Aside0.mk ho
        have H2 := Aside0.mk h2
        clear h2 ho
        by_cases he : er = 0
        · subst he
          have hm : m ≠ (((seq + i) % 18446744073709551616 : Nat) : Int) := by
            rcases h1 with h | h
            · exact absurd rfl h
            · exact h
          have hm1 : (m != ((seq : Int) + (i : Int)) % 18446744073709551616) = true := by
            rw [bne_iff_ne]; intro hh; apply hm; rw [hh]; simp
          clear h1 hm
          go_wp2_with (go_at_call 31; refine (open_at s hs _ wr).mono ?_; rw [HO.out]; rintro e w1 ⟨rfl, hb⟩; have B1 := Aside0.mk (hI i wr w1 HW.out hb); clear hb)

          go_ret
          exact ⟨rfl, H2.out _ B1.out⟩
        · have hm1 : (er != 0) = true := bne_iff_ne.2 he
          clear h1 he
          go_wp2_with (go_at_call 31; refine (open_at s hs _ wr).mono ?_; rw [HO.out]; rintro e w1 ⟨rfl, hb⟩; have B1 := Aside0.mk (hI i wr w1 HW.out hb); clear hb)
          go_ret
          exact ⟨rfl, H2.out _ B1.out⟩
      · obtain ⟨⟨m, b, p, er⟩, ho⟩ : ∃ r, openR s (E i : Int) = r := ⟨_, rfl⟩
        rw [ho] at h1 h1' h2
        simp only at h1 h1' h2
        subst h1 h1'
        have HO := Aside0.mk ho
        have H2 := Aside0.mk h2
        clear h2 ho
        go_wp2_with (first
          | (go_at_call 31; refine (open_at s hs _ wr).mono ?_; rw [HO.out]; rintro e w1 ⟨rfl, hb⟩; have B1 := Aside0.mk (hI i wr w1 HW.out hb); clear hb)
          | (refine (H2.out w1 B1.out).mono ?_; rintro e w2 ⟨rfl, hJ⟩; have H3 := Aside0.mk hJ; clear hJ))
        go_ret
        exact ⟨rfl, H3.out⟩
end Go.Proofs.Ythlllcmffgdcmaa.Scan

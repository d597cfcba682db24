/- Where a scan of any text stops; the document's scan. -/
import Derived.Test.YthlllcmffgdcmaaScans0
import Derived.Test.YthlllcmffgdcmaaRefOpen
namespace Go.Proofs.Ythlllcmffgdcmaa.Scans
open Go.RowKit Go.Proofs.Ythlllcmffgdcmaa.QSegmentOpens Go.Proofs.YthlllcmffgdcmaaW.PrintWords Go.Proofs.YthlllcmffgdcmaaW.PrintLast Go.Proofs.YthlllcmffgdcmaaW.PrintMore Go.Proofs.Ythlllcmffgdcmaa.LebPlain Go.Proofs.Ythlllcmffgdcmaa.LebWords Go.Proofs.Ythlllcmffgdcmaa.SegPlain Go.Proofs.Ythlllcmffgdcmaa.SegLinkQSegmentOpens Go.Proofs.Ythlllcmffgdcmaa.Spoilt Go.Proofs.Ythlllcmffgdcmaa.Scan Go.Proofs.Ythlllcmffgdcmaa.RefOpen
set_option linter.unusedVariables false
set_option linter.unusedSimpArgs false

/-- Where the i-th segment begins. -/
def stp (s : ByteArray) : Nat → Nat
  | 0 => 0
  | i + 1 => (openR s (stp s i : Int)).2.2.1.toNat
/-- The i-th body. -/
def bdy (s : ByteArray) (i : Nat) : ByteArray := (openR s (stp s i : Int)).2.1
/-- A segment with the next number stands there. -/
def okAt (s : ByteArray) (seq i : Nat) : Prop := (openR s (stp s i : Int)).2.2.2 = 0 ∧ (openR s (stp s i : Int)).1 = (((seq + i) % 18446744073709551616 : Nat) : Int)

theorem openR_next (s : ByteArray) (p : Nat) (h : (openR s (p : Int)).2.2.2 = 0) : ∃ q : Nat, (openR s (p : Int)).2.2.1 = (q : Int) ∧ p < q ∧ q ≤ s.size := by
  unfold openR at h ⊢
  by_cases h0 : (p : Int) < 0 ∨ (s.size : Int) < (p : Int)
  · rw [if_pos h0] at h; exact absurd h (by decide)
  rw [if_neg h0] at h ⊢
  rw [Int.toNat_natCast] at h ⊢
  unfold openA at h ⊢
  by_cases h1 : (openL ((bl s).drop p)).2.2.2 = 0
  · rw [if_pos h1]
    obtain ⟨_, _, a3, a4, _⟩ := openL_ok ((bl s).drop p) (fun b hb => bl_lt s b (List.mem_of_mem_drop hb)) h1
    rw [List.length_drop, bl_length] at a3
    exact ⟨_, rfl, by omega, by omega⟩
  · rw [if_neg h1] at h
    exact absurd h (by intro hh; exact h1 (by simpa using hh))

theorem okAt_step (s : ByteArray) (seq i : Nat) (h : okAt s seq i) : stp s i < stp s (i + 1) ∧ stp s (i + 1) ≤ s.size ∧ openR s (stp s i : Int) = ((((seq + i) % 18446744073709551616 : Nat) : Int), bdy s i, (stp s (i + 1) : Int), 0) := by
  obtain ⟨q, hq, h1, h2⟩ := openR_next s (stp s i) h.1
  have e : stp s (i + 1) = q := by rw [stp, hq, Int.toNat_natCast]
  rw [e]
  refine ⟨h1, h2, ?_⟩
  obtain ⟨a, b⟩ := h
  unfold bdy
  generalize openR s (stp s i : Int) = r at hq a b ⊢
  obtain ⟨r1, r2, r3, r4⟩ := r
  simp only at hq a b ⊢
  rw [hq, a, b]

theorem stp_le (s : ByteArray) (seq : Nat) : ∀ i, (∀ j, j < i → okAt s seq j) → i ≤ stp s i ∧ stp s i ≤ s.size
  | 0, _ => ⟨Nat.zero_le _, Nat.zero_le _⟩
  | i + 1, h => by
    have h1 := stp_le s seq i (fun j hj => h j (by omega))
    have h2 := okAt_step s seq i (h i (by omega))
    omega

/-- Where the scan stops. -/
theorem stops (s : ByteArray) (seq : Nat) : ∃ n, n ≤ s.size ∧ (∀ i, i < n → okAt s seq i) ∧ ¬ okAt s seq n := by
  have key : ∀ m, (∀ i, i < m → okAt s seq i) ∨ ∃ n, n < m ∧ (∀ i, i < n → okAt s seq i) ∧ ¬ okAt s seq n := by
    intro m
    induction m with
    | zero => left; intro i hi; omega
    | succ m ih =>
      rcases ih with h | ⟨n, h1, h2, h3⟩
      · by_cases hm : okAt s seq m
        · left; intro i hi
          rcases Nat.lt_or_ge i m with h' | h'
          · exact h i h'
          · rw [show i = m by omega]; exact hm
        · right; exact ⟨m, by omega, h, hm⟩
      · right; exact ⟨n, by omega, h2, h3⟩
  rcases key (s.size + 1) with h | ⟨n, h1, h2, h3⟩
  · have := stp_le s seq (s.size + 1) h; omega
  · exact ⟨n, by omega, h2, h3⟩

/-- The first bodies. -/
def bdys (s : ByteArray) (i : Nat) : List ByteArray := (List.range i).map (bdy s)
theorem bdys_len (s : ByteArray) (i : Nat) : (bdys s i).length = i := by simp [bdys]
theorem bdys_succ (s : ByteArray) (i : Nat) : bdys s (i + 1) = bdys s i ++ [bdy s i] := by simp [bdys, List.range_succ]
theorem bdys_zero (s : ByteArray) : bdys s 0 = [] := rfl

theorem refopen_at (s : ByteArray) (hs : s.size ≤ 5000) (p : Nat) (w : World) :
    Calls Try.prog 33 #[.string s, .int .i64 (p : Int)] w fun e w' => e = .returned (.tuple #[.int .u64 (openR s (p : Int)).1, .string (openR s (p : Int)).2.1, .int .i64 (openR s (p : Int)).2.2.1, .int .i64 (openR s (p : Int)).2.2.2]) ∧ Below w.heap.size w w' := by
  have hf := refopen5_f s (p : Int) hs 60020 (by decide)
  exact shunterref05_Open.calls 60020 _ _ _ _ _ _ w hf

set_option maxHeartbeats 4000000 in
set_option maxRecDepth 100000 in
theorem refscan_calls (s : ByteArray) (hs : s.size ≤ 1000) (seq n : Nat) (hseq : seq < 18446744073709551616) (hn : n ≤ s.size) (hok : ∀ i, i < n → okAt s seq i) (hno : ¬ okAt s seq n) (w : World) :
    Calls Try.prog 34 #[.string s, .int .u64 (seq : Int)] w fun e w' => ∃ v, e = .returned (.tuple #[v, .int .i64 (stp s n : Int)]) ∧ w'.ownsRow w.heap.size 9 1 v (bdys s n).length (encs Value.string (bdys s n)) ∧ Below w.heap.size w w' := by
  go_enter Try.func34, Try.ntmps34
  go_wp2
  have h0 := own_lit_of (enc := Value.string) w w.heap.size 9 ([] : List ByteArray) (Nat.le_refl _) (by simp)
  have R0 := Aside0.mk (show (w.alloc (Obj.cells #[] 9)).ownsRow w.heap.size 9 1 (.slice (some ⟨w.heap.size, 0, none⟩) 0 0) (bdys s 0).length (encs Value.string (bdys s 0)) from h0)
  have L0 := Aside0.mk (below_alloc (Below.refl w.heap.size w) (Obj.cells #[] 9))
  clear h0
  go_loopw [6, 7, 1] (fun v x y wr => ∃ i : Nat, i ≤ n ∧ x = .int .i64 (stp s i : Int) ∧ y = .int .u64 (((seq + i) % 18446744073709551616 : Nat) : Int) ∧ wr.ownsRow w.heap.size 9 1 v (bdys s i).length (encs Value.string (bdys s i)) ∧ Below w.heap.size w wr) (fun _ x _ _ => s.size - (intOf x).toNat)
  case atStart => exact ⟨0, Nat.zero_le _, rfl, by rw [Nat.add_zero, Nat.mod_eq_of_lt hseq], R0.out, L0.out⟩
  case round =>
    obtain ⟨i, hi, rfl, rfl, hO, hL⟩ := hrel
    have HO := Aside0.mk hO
    have HL := Aside0.mk hL
    clear hO hL
    by_cases hin : i < n
    · obtain ⟨g1, g2, g3⟩ := okAt_step s seq i (hok i hin)
      have HR := Aside0.mk g3
      have HS := Aside0.mk (And.intro g1 g2)
      have HBL := Aside0.mk (bdys_len s i)
      have HBS := Aside0.mk (bdys_succ s i)
      have HI := Aside0.mk (show i ≤ 1000 by omega)
      clear g1 g2 g3
      go_wp2_with (first
        | (go_at_call 33; refine (refopen_at s (by omega) _ wr).mono ?_; rw [HR.out]; rintro e w1 ⟨rfl, hb⟩; have B1 := Aside0.mk (below_step HL.out hb); have HO1 := Aside0.mk (pw_own_below HO.out hb); clear hb)
        | (at_builtin; go_loud (refine print_append_of (w0 := w) Value.string w.heap.size rfl (.tmp 30) (.tmp 32) 62 9 _ 16 rfl Try.underlying62 info9 rfl (by decide) _ (bdys s i) (bdy s i) rfl rfl rfl HO1.out B1.out B1.out.size (by have := HBL.out; have := HI.out; omega) ?_); intro v1 w2 hown hbel hgr hat; have HO2 := Aside0.mk hown; have B2 := Aside0.mk hbel; clear hat hgr hown hbel))
      exact ⟨⟨i + 1, hin, rfl, by (simp; rw [IntKind.wrap_u64]; omega), by rw [HBS.out]; exact HO2.out, B2.out⟩, by have := HS.out; simp [intOf]; omega⟩
    · obtain rfl : i = n := by omega
      obtain ⟨⟨m, b, p, er⟩, ho⟩ : ∃ r, openR s (stp s i : Int) = r := ⟨_, rfl⟩
      have HR := Aside0.mk ho
      unfold okAt at hno
      rw [ho] at hno
      simp only at hno
      by_cases he : er = 0
      · subst he
        have hm : m ≠ (((seq + i) % 18446744073709551616 : Nat) : Int) := fun hh => hno ⟨rfl, hh⟩
        have hm1 : (m != ((seq : Int) + (i : Int)) % 18446744073709551616) = true := by
          rw [bne_iff_ne]; intro hh; apply hm; rw [hh]; simp
        clear hno hm ho
        go_wp2_with (go_at_call 33; refine (refopen_at s (by omega) _ wr).mono ?_; rw [HR.out]; rintro e w1 ⟨rfl, hb⟩; have B1 := Aside0.mk (below_step HL.out hb); have HO1 := Aside0.mk (pw_own_below HO.out hb); clear hb)
        go_ret2
        exact ⟨_, rfl, HO1.out, B1.out⟩
      · have hm1 : (er != 0) = true := bne_iff_ne.2 he
        clear hno he ho
        go_wp2_with (go_at_call 33; refine (refopen_at s (by omega) _ wr).mono ?_; rw [HR.out]; rintro e w1 ⟨rfl, hb⟩; have B1 := Aside0.mk (below_step HL.out hb); have HO1 := Aside0.mk (pw_own_below HO.out hb); clear hb)
        go_ret2
        exact ⟨_, rfl, HO1.out, B1.out⟩
end Go.Proofs.Ythlllcmffgdcmaa.Scans

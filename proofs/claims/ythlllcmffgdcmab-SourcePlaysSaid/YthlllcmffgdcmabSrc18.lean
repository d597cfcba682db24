/- A chain's draws: from its tape, and behind it from its numbers. -/
import Derived.Test.YthlllcmffgdcmabSrc17
namespace Go.Proofs.Ythlllcmffgdcmab.Src
open Go.RowKit Go.Proofs.YthlllcmffgdcmabW.PrintWords Go.Proofs.YthlllcmffgdcmabW.PrintLast Go.Proofs.YthlllcmffgdcmabW.PrintMore
attribute [local go_sem] max2_int min2_int max_two min_two
set_option linter.unusedVariables false
set_option linter.unusedSimpArgs false

theorem own_grown_other {w w' : World} {B B' size size' n n' : Nat} {e e' : TypeId} {v v' : Value} {xs xs' : List Value} (h : w.ownsRow B e size v n xs) (h' : w.ownsRow B' e' size' v' n' xs') (hne : e ≠ e') (hg : w.grownBy w' v'.ownBlock) : w'.ownsRow B e size v n xs :=
  own_kept h (S := fun k => v'.ownBlock = some k) (Kept.of_grown hg (Kept.refl _ _) (fun k hk => .inl hk)) (fun k hk hh => by
    rcases own_type_ne h h' hne with h1 | h1
    · rw [h1] at hk; cases hk
    · exact h1 (hk.trans hh.symm))
theorem Chn.lower {B B' : Nat} {w : World} {o : Nat} {T : List (Int × Int)} {j : Nat} {vt : Value} {l : List Int} {k : Nat} {vn : Value} (h : Chn B w o T j vt l k vn) (hB : B' ≤ B) : Chn B' w o T j vt l k vn := ⟨Nat.le_trans hB h.ge, h.blk, own_weaken h.rowT hB, own_weaken h.rowN hB⟩
theorem Chn.drewN {B : Nat} {w : World} {o : Nat} {T : List (Int × Int)} {j : Nat} {vt : Value} {l : List Int} {k : Nat} {vn : Value} (h : Chn B w o T j vt l k vn) (n : Nat) : Chn B (w.drewN n) o T j vt l k vn := ⟨h.ge, h.blk, h.rowT, h.rowN⟩
theorem Chn.at_ {B : Nat} {w : World} {o : Nat} {T : List (Int × Int)} {j : Nat} {vt : Value} {l : List Int} {k : Nat} {vn : Value} (h : Chn B w o T j vt l k vn) (i : Nat) (hi : i < l.length) (ad : Addr) (c : Nat) (hv : vn = .slice (some ad) l.length c) : w.cell? (ad.add i) = some (.int .u64 (rd l (i : Int))) := by
  obtain ⟨A1, c1, e, hle, hrd⟩ := own_reads_of_le (enc := Value.int .u64) (d := (0 : Int)) h.rowN
  obtain ⟨ad1, e1, kx⟩ := hrd.at_ (i : Int) (by omega) (by omega)
  rw [hv] at e
  injection e with e _ _
  rw [e1] at e
  injection e with e
  rw [e]
  rwa [Int.toNat_natCast] at kx

set_option maxHeartbeats 1000000 in
theorem chain_calls (B n : Nat) (v : Value) (T : List (Int × Int)) (A : Option Addr) (c : Nat) (l : List Int) (w : World) (h : w.ownsRow B 25 2 v n (recs T)) (hn : T.length = n) (hT : n ≤ 1000) (hr : ReadsInt w .u64 A l.length l) (hl : l.length * 8 ≤ 140737488355328) : Calls Try.prog 31 #[v, .slice A l.length c] w fun e w' =>
    ∃ s o vt vn, e = .returned (.pointer (some ⟨s, 0, none⟩)) ∧ Chn w.heap.size w' o T 0 vt l 0 vn ∧ Srce w.heap.size w' s 65 66 o (.slice none 0 0) 0 [] .nilFunc ∧ Below w.heap.size w w' := by
  have h1 := hmf
  obtain ⟨j0, hj0, hz0, hz1, hz2⟩ := info_parts info25
  have HJ := Aside0.mk (And.intro hj0 (And.intro hz0 (And.intro hz1 hz2)))
  obtain ⟨A2, c2, rfl⟩ := own_slice h
  have HO := Aside0.mk (own_empty w w.heap.size 25 2 (Nat.le_refl _))
  have HR := Aside0.mk (h.alloc (.cells #[] 25))
  have HI := Aside0.mk (hr.below (below_alloc (Below.refl w.heap.size w) (.cells #[] 25)))
  have HL := Aside0.mk (below_alloc (Below.refl w.heap.size w) (.cells #[] 25))
  have HT := Aside0.mk hT
  have HN := Aside0.mk hn
  have HLL := Aside0.mk hl
  have HI0 := Aside0.mk hr
  clear hj0 hz0 hz1 hz2 h hn hr hl
  go_enter Try.func31, Try.ntmps31
  go_wp2_with (first
    | (at_builtin; refine wpList_copy rfl _ _ 45 rfl w.heap.size 25 j0 _ 2 16 Try.underlying45 HJ.out.1 HJ.out.2.1 HJ.out.2.2.1 HJ.out.2.2.2 rfl (by omega) w.heap.size rfl HO.out B n _ (recs T) rfl HR.out (recs_one T) (by have := HT.out; unfold maxLen; omega) (by have := HT.out; omega) (by simp) ?_; intro A3 c3 w1 ho hg; have HO3 := Aside0.mk (ho.alloc (.cells #[] 23)); have hl3 := HL.out.grown hg (by simp) (fun k hk => by injection hk with hk; omega); have HL3 := Aside0.mk (hl3.alloc hl3.size (.cells #[] 23)); have HI3 := Aside0.mk (HI0.out.below (hl3.alloc hl3.size (.cells #[] 23))); have HE3 := Aside0.mk (show (w1.alloc (.cells #[] 23)).ownsRow w.heap.size 23 1 (.slice (some ⟨w1.heap.size, 0, none⟩) 0 0) ([] : List Int).length (nums .u64 []) by simpa [nums] using own_lit w1 w.heap.size 23 .u64 [] hl3.size (by simp)); clear ho hg hl3)
    | (at_builtin; refine print_append_row (w0 := w) w.heap.size rfl _ _ 31 23 .u64 8 rfl Try.underlying31 info23 (by decide) _ [] l A _ _ rfl rfl HE3.out HI3.out HL3.out (by have := HL3.out.size; omega) (by have := HLL.out; simp; omega) ?_; intro v1 w2 hown hbel hgr hat; rw [List.nil_append] at hown; have HO4 := Aside0.mk hown; have HL4 := Aside0.mk hbel; have HT4 := Aside0.mk (own_grown_other HO3.out HE3.out (by decide) hgr); clear hbel hgr hat; obtain ⟨A4, c4, rfl⟩ := own_slice hown; clear hown))
  go_ret
  obtain rfl := HN.out
  refine ⟨w2.heap.size + 1, w2.heap.size, .slice A3 T.length c3, .slice A4 l.length c4, rfl, ⟨HL4.out.size, blk_alloc (blk_new w2 _) _, (HT4.out.alloc _).alloc _, (HO4.out.alloc _).alloc _⟩, ⟨Nat.le_trans HL4.out.size (by omega), ?_, own_nil _ _ _ _⟩, (HL4.out.alloc HL4.out.size _).alloc (Nat.le_trans HL4.out.size (by simp)) _⟩
  have := blk_new (w2.alloc (.cells #[.slice A3 T.length c3, .int .i64 0, .slice A4 l.length c4, .int .i64 0] 150)) (.cells #[.func (.func 65) #[.pointer (some ⟨w2.heap.size, 0, none⟩)] #[], .func (.func 66) #[.pointer (some ⟨w2.heap.size, 0, none⟩)] #[], .slice none 0 0, .nilFunc] 144)
  rw [show (w2.alloc (.cells #[.slice A3 T.length c3, .int .i64 0, .slice A4 l.length c4, .int .i64 0] 150)).heap.size = w2.heap.size + 1 by simp] at this
  exact this

theorem callFunc65 (caps : Array Value) (W : World) : (callFunc 65 caps).run Try.prog W = .ok (.enter 65 caps) W := by kernel_rfl
theorem callFunc66 (caps : Array Value) (W : World) : (callFunc 66 caps).run Try.prog W = .ok (.enter 66 caps) W := by kernel_rfl

set_option maxHeartbeats 1000000 in
theorem cnrest_calls (B o : Nat) (T : List (Int × Int)) (j : Nat) (vt : Value) (l : List Int) (k : Nat) (vn : Value) (w : World) (h : Chn B w o T j vt l k vn) (hk : k ≤ l.length) : Calls Try.prog 60 #[.pointer (some ⟨o, 2, none⟩)] w fun e w' =>
    e = .returned (.int .i64 ((l.length : Int) - k)) ∧ ∃ n, w' = w.drewN n := by
  obtain ⟨A1, c1, rfl, hle, hrd⟩ := own_reads_of_le (enc := Value.int .u64) (d := (0 : Int)) h.rowN
  have hmx := hrd.2.1
  have k0 : w.cell? ⟨o, 2, none⟩ = some (.slice A1 l.length c1) := (blk_cell h.blk 2).trans rfl
  have k1 : w.cell? ⟨o, 3, none⟩ = some (.int .i64 k) := (blk_cell h.blk 3).trans rfl
  have e1 : IntKind.i64.wrap ((l.length : Int) - k) = (l.length : Int) - k := by rw [IntKind.wrap_i64]; omega
  clear h hrd
  go_enter Try.func60, Try.ntmps60
  go_wp2
  go_quiet (fail)
  go_wp2
  go_ret
  exact ⟨rfl, nq, rfl⟩

set_option maxHeartbeats 1000000 in
theorem cndraw_dry (B o : Nat) (T : List (Int × Int)) (j : Nat) (vt : Value) (l : List Int) (vn : Value) (kind n : Int) (w : World) (h : Chn B w o T j vt l l.length vn) : Calls Try.prog 59 #[.pointer (some ⟨o, 2, none⟩), .int .i64 kind, .int .i64 n] w fun e w' =>
    e = .panicked [{ v := dryV, recovered := false }] ∧ Below w.heap.size w w' := by
  obtain ⟨A1, c1, rfl, hle, hrd⟩ := own_reads_of_le (enc := Value.int .u64) (d := (0 : Int)) h.rowN
  have k0 : w.cell? ⟨o, 2, none⟩ = some (.slice A1 l.length c1) := (blk_cell h.blk 2).trans rfl
  have k1 : w.cell? ⟨o, 3, none⟩ = some (.int .i64 l.length) := (blk_cell h.blk 3).trans rfl
  clear h hrd
  go_enter Try.func59, Try.ntmps59
  go_wp2
  go_quiet (fail)
  go_wp2
  exact ⟨rfl, rfl, pw_below_drewN (Below.refl _ _) nq⟩

set_option maxHeartbeats 1000000 in
theorem cndraw_ok (B o : Nat) (T : List (Int × Int)) (j : Nat) (vt : Value) (l : List Int) (k : Nat) (vn : Value) (kind n : Int) (w : World) (h : Chn B w o T j vt l k vn) (hk : k < l.length) (hn : 1 ≤ n) (hn2 : n ≤ 9223372036854775807) (hx : 0 ≤ rd l k) : Calls Try.prog 59 #[.pointer (some ⟨o, 2, none⟩), .int .i64 kind, .int .i64 n] w fun e w' =>
    e = .returned (.int .u64 (rd l k % n)) ∧ Reach o w w' ∧ Chn B w' o T j vt l (k + 1) vn := by
  have H := Aside0.mk h
  obtain ⟨A1, c1, rfl, hle, hrd⟩ := own_reads_of_le (enc := Value.int .u64) (d := (0 : Int)) h.rowN
  have hmx := hrd.2.1
  obtain ⟨ad, rfl, kx⟩ := hrd.at_ (k : Int) (by omega) (by omega)
  rw [Int.toNat_natCast] at kx
  have kx' : w.cell? (ad.add k) = some (.int .u64 (rd l k)) := kx
  have k0 : w.cell? ⟨o, 2, none⟩ = some (.slice (some ad) l.length c1) := (blk_cell h.blk 2).trans rfl
  have k1 : w.cell? ⟨o, 3, none⟩ = some (.int .i64 k) := (blk_cell h.blk 3).trans rfl
  have f1 := blk_frozen h.blk 3
  have e1 : IntKind.i64.wrap ((k : Int) + 1 - 1) = (k : Int) := by rw [IntKind.wrap_i64]; omega
  have e2 : IntKind.i64.wrap (k : Int) = (k : Int) := by clear e1; rw [IntKind.wrap_i64]; omega
  have q1 : decide ((l.length : Int) ≤ (k : Int)) = false := decide_eq_false (by omega)
  have b0 : (k : Int) < (l.length : Int) := by omega
  have b1 : (0 : Int) ≤ (k : Int) := by omega
  obtain ⟨x, hxe⟩ : ∃ x, rd l (k : Int) = x := ⟨_, rfl⟩
  have HX := Aside0.mk hxe
  rw [hxe] at kx' hx ⊢
  have HK := Aside0.mk hk
  clear h hrd kx hk hxe
  go_enter Try.func59, Try.ntmps59
  go_wp2
  go_quiet (fail)
  go_wp2
  have HO2 := Aside0.mk (show Chn B ((w.drewN nq).setCell ⟨o, 3, none⟩ (.int .i64 ((k : Int) + 1))) o T j vt l (k + 1) (.slice (some ad) l.length c1) from (H.out.drewN nq).nextN)
  have HT := Aside0.mk (((Reach.refl o w).drewN nq).set 3 (.int .i64 ((k : Int) + 1)))
  generalize ((w.drewN nq).setCell ⟨o, 3, none⟩ (.int .i64 ((k : Int) + 1))) = w2 at HO2 HT ⊢
  clear k0 k1 f1 kx'
  have k0 : w2.cell? ⟨o, 2, none⟩ = some (.slice (some ad) l.length c1) := (blk_cell HO2.out.blk 2).trans rfl
  have k1 : w2.cell? ⟨o, 3, none⟩ = some (.int .i64 ((k : Int) + 1)) := (blk_cell HO2.out.blk 3).trans rfl
  have kx2 := HO2.out.at_ k HK.out ad c1 rfl
  rw [HX.out] at kx2
  go_quiet (fail)
  go_wp2
  go_ret
  exact ⟨rfl, HT.out.drewN _, HO2.out.drewN _⟩

theorem ctrest' (B o : Nat) (T : List (Int × Int)) (j : Nat) (vt : Value) (l : List Int) (k : Nat) (vn : Value) (r : Int) (w : World) (h : Chn B w o T j vt l k vn) (hj : j ≤ T.length) (hT : T.length ≤ 1000) (hr : (T.length : Int) - j = r) : Calls Try.prog 64 #[.pointer (some ⟨o, 0, none⟩)] w fun e w' => e = .returned (.int .i64 r) ∧ ∃ n, w' = w.drewN n := by
  subst hr
  exact ctrest_calls B o T j vt l k vn w h hj hT

set_option maxHeartbeats 1000000 in
/-- A draw while the tape has some: what its own draw does. -/
theorem cdraw_t (B o : Nat) (T : List (Int × Int)) (j : Nat) (vt : Value) (l : List Int) (k : Nat) (vn : Value) (kind n : Int) (w : World) (v : Value) (Q : World → Prop) (h : Chn B w o T j vt l k vn) (hj : j < T.length) (hT : T.length ≤ 1000)
    (hrun : ∀ m, Calls Try.prog 63 #[.pointer (some ⟨o, 0, none⟩), .int .i64 kind, .int .i64 n] (w.drewN m) fun e w' => e = .returned v ∧ Q w') : Calls Try.prog 65 #[.pointer (some ⟨o, 0, none⟩), .int .i64 kind, .int .i64 n] w fun e w' => e = .returned v ∧ Q w' := by
  obtain ⟨r, hr⟩ : ∃ r : Int, (T.length : Int) - j = r := ⟨_, rfl⟩
  have HC := Aside0.mk (ctrest' B o T j vt l k vn r w h (by omega) hT hr)
  have HR := Aside0.mk hrun
  have q1 : decide ((0 : Int) < r) = true := decide_eq_true (by omega)
  have q2 : (0 : Int) < r := by omega
  clear h hrun hr
  go_enter Try.func65, Try.ntmps65
  go_wp2_with (first
    | (go_at_call 64; (with_reducible refine HC.out.mono ?_); rintro e w' ⟨rfl, m, rfl⟩)
    | (go_at_call 63; (with_reducible refine (HR.out m).mono ?_); rintro e w1 ⟨rfl, hq⟩; have HQ := Aside0.mk hq; clear hq))
  go_ret
  exact ⟨rfl, HQ.out⟩
set_option maxHeartbeats 1000000 in
theorem cdraw_t_panics (B o : Nat) (T : List (Int × Int)) (j : Nat) (vt : Value) (l : List Int) (k : Nat) (vn : Value) (kind n : Int) (w : World) (L : List PanicEntry) (Q : World → Prop) (h : Chn B w o T j vt l k vn) (hj : j < T.length) (hT : T.length ≤ 1000)
    (hrun : ∀ m, Calls Try.prog 63 #[.pointer (some ⟨o, 0, none⟩), .int .i64 kind, .int .i64 n] (w.drewN m) fun e w' => e = .panicked L ∧ Q w') : Calls Try.prog 65 #[.pointer (some ⟨o, 0, none⟩), .int .i64 kind, .int .i64 n] w fun e w' => e = .panicked L ∧ Q w' := by
  obtain ⟨r, hr⟩ : ∃ r : Int, (T.length : Int) - j = r := ⟨_, rfl⟩
  have HC := Aside0.mk (ctrest' B o T j vt l k vn r w h (by omega) hT hr)
  have HR := Aside0.mk hrun
  have q1 : decide ((0 : Int) < r) = true := decide_eq_true (by omega)
  have q2 : (0 : Int) < r := by omega
  clear h hrun hr
  go_enter Try.func65, Try.ntmps65
  go_wp2_with (first
    | (go_at_call 64; (with_reducible refine HC.out.mono ?_); rintro e w' ⟨rfl, m, rfl⟩)
    | (go_at_call 63; (with_reducible refine (HR.out m).mono ?_); rintro e w1 ⟨rfl, hq⟩; have HQ := Aside0.mk hq; clear hq))
  exact ⟨rfl, rfl, HQ.out⟩
set_option maxHeartbeats 1000000 in
/-- A draw behind the tape: what the numbers' draw does. -/
theorem cdraw_n (B o : Nat) (T : List (Int × Int)) (vt : Value) (l : List Int) (k : Nat) (vn : Value) (kind n : Int) (w : World) (v : Value) (Q : World → Prop) (h : Chn B w o T T.length vt l k vn) (hT : T.length ≤ 1000)
    (hrun : ∀ m, Calls Try.prog 59 #[.pointer (some ⟨o, 2, none⟩), .int .i64 kind, .int .i64 n] (w.drewN m) fun e w' => e = .returned v ∧ Q w') : Calls Try.prog 65 #[.pointer (some ⟨o, 0, none⟩), .int .i64 kind, .int .i64 n] w fun e w' => e = .returned v ∧ Q w' := by
  have HC := Aside0.mk (ctrest' B o T T.length vt l k vn 0 w h (by omega) hT (by omega))
  have HR := Aside0.mk hrun
  clear h hrun
  go_enter Try.func65, Try.ntmps65
  go_wp2_with (first
    | (go_at_call 64; (with_reducible refine HC.out.mono ?_); rintro e w' ⟨rfl, m, rfl⟩)
    | (go_at_call 59; (with_reducible refine (HR.out m).mono ?_); rintro e w1 ⟨rfl, hq⟩; have HQ := Aside0.mk hq; clear hq))
  go_ret
  exact ⟨rfl, HQ.out⟩
set_option maxHeartbeats 1000000 in
theorem cdraw_n_panics (B o : Nat) (T : List (Int × Int)) (vt : Value) (l : List Int) (k : Nat) (vn : Value) (kind n : Int) (w : World) (L : List PanicEntry) (Q : World → Prop) (h : Chn B w o T T.length vt l k vn) (hT : T.length ≤ 1000)
    (hrun : ∀ m, Calls Try.prog 59 #[.pointer (some ⟨o, 2, none⟩), .int .i64 kind, .int .i64 n] (w.drewN m) fun e w' => e = .panicked L ∧ Q w') : Calls Try.prog 65 #[.pointer (some ⟨o, 0, none⟩), .int .i64 kind, .int .i64 n] w fun e w' => e = .panicked L ∧ Q w' := by
  have HC := Aside0.mk (ctrest' B o T T.length vt l k vn 0 w h (by omega) hT (by omega))
  have HR := Aside0.mk hrun
  clear h hrun
  go_enter Try.func65, Try.ntmps65
  go_wp2_with (first
    | (go_at_call 64; (with_reducible refine HC.out.mono ?_); rintro e w' ⟨rfl, m, rfl⟩)
    | (go_at_call 59; (with_reducible refine (HR.out m).mono ?_); rintro e w1 ⟨rfl, hq⟩; have HQ := Aside0.mk hq; clear hq))
  exact ⟨rfl, rfl, HQ.out⟩

set_option maxHeartbeats 1000000 in
theorem crest_calls (B o : Nat) (T : List (Int × Int)) (j : Nat) (vt : Value) (l : List Int) (k : Nat) (vn : Value) (r : Int) (w : World) (h : Chn B w o T j vt l k vn) (hj : j ≤ T.length) (hT : T.length ≤ 1000) (hk : k ≤ l.length) (hl : l.length ≤ 1000) (hr : (T.length : Int) - j + ((l.length : Int) - k) = r) : Calls Try.prog 66 #[.pointer (some ⟨o, 0, none⟩)] w fun e w' =>
    e = .returned (.int .i64 r) ∧ ∃ n, w' = w.drewN n := by
  obtain ⟨a, ha⟩ : ∃ a : Int, (T.length : Int) - j = a := ⟨_, rfl⟩
  obtain ⟨b, hb⟩ : ∃ a : Int, (l.length : Int) - k = a := ⟨_, rfl⟩
  have HC := Aside0.mk (fun m => ctrest' B o T j vt l k vn a (w.drewN m) (h.drewN m) hj hT ha)
  have HN := Aside0.mk (fun m => cnrest_calls B o T j vt l k vn (w.drewN m) (h.drewN m) hk)
  rw [hb] at HN
  rw [ha, hb] at hr
  have e1 : IntKind.i64.wrap (a + b) = r := by rw [IntKind.wrap_i64]; omega
  clear h hr ha hb
  go_enter Try.func66, Try.ntmps66
  go_wp2
  go_quiet (first | (go_at_call 64; exact Calls.quiet_of (HC.out _)) | (go_at_call 60; exact Calls.quiet_of (HN.out _)))
  go_wp2
  go_ret
  exact ⟨rfl, nq, rfl⟩
end Go.Proofs.Ythlllcmffgdcmab.Src

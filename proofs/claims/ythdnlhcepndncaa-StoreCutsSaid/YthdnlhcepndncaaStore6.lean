import Derived.Test.YthdnlhcepndncaaStore5
import Derived.Deep.DeepCutAuto
import Derived.Deep.CutBlock
import Derived.Test.YthdnlhcepndncaaCrashPlain
namespace Go.Proofs.Ythdnlhcepndncaa.Stores
open Go.RowKit Go.Proofs.YthdnlhcepndncaaW.PrintWords Go.Proofs.YthdnlhcepndncaaW.PrintLast Go.Proofs.YthdnlhcepndncaaW.PrintMore Go.Proofs.Ythdnlhcepndncaa.Copy
attribute [local go_sem] max2_int min2_int max_two min_two
set_option linter.unusedVariables false
set_option linter.unusedSimpArgs false

/-- The first 60 bytes. -/
def cut60 (s : ByteArray) : ByteArray := if (60 : Int) < (s.size : Int) then s.extract 0 60 else s
theorem cut60_size (s : ByteArray) : (cut60 s).size ≤ 60 := by
  unfold cut60; split
  · rw [ByteArray.size_extract]; omega
  · omega
theorem cut_calls (s : ByteArray) (w : World) : Calls Try.prog 24 #[.string s, .int .i64 60] w fun e w' => e = .returned (.string (cut60 s)) ∧ w = w' := by
  by_cases h : (60 : Int) < (s.size : Int)
  · have e : cut60 s = s.extract 0 60 := if_pos h
    have h1 : decide ((60 : Int) < (s.size : Int)) = true := decide_eq_true h
    rw [e]
    clear e
    go_enter Try.func24, Try.ntmps24
    go_wp2
    go_ret
    exact ⟨rfl, rfl⟩
  · have e : cut60 s = s := if_neg h
    have h1 : decide ((60 : Int) < (s.size : Int)) = false := decide_eq_false h
    rw [e]
    clear e
    go_enter Try.func24, Try.ntmps24
    go_wp2
    go_ret
    exact ⟨rfl, rfl⟩

/-- Texts, each cut, one behind the other. -/
def catTo (l : List ByteArray) : ByteArray := l.foldl (fun a s => a ++ cut60 s) ⟨#[]⟩
theorem catTo_nil : catTo [] = ⟨#[]⟩ := rfl
theorem catTo_snoc (l : List ByteArray) (s : ByteArray) : catTo (l ++ [s]) = catTo l ++ cut60 s := by simp [catTo]
theorem catTo_next (l : List ByteArray) (i : Nat) (h : i < l.length) : catTo (l.take (i + 1)) = catTo (l.take i) ++ cut60 (rdOf ByteArray.empty l (i : Int)) := by
  rw [List.take_succ_eq_append_getElem h, catTo_snoc]
  congr 1
  simp [rdOf, List.getD, h]
theorem catTo_size (l : List ByteArray) : ∀ i, i ≤ l.length → (catTo (l.take i)).size ≤ 60 * i := by
  intro i
  induction i with
  | zero => intro _; rw [List.take_zero, catTo_nil]; exact Nat.le_refl _
  | succ i ih =>
    intro h
    have := ih (by omega)
    have h2 := cut60_size (rdOf ByteArray.empty l (i : Int))
    rw [catTo_next l i (by omega), ByteArray.size_append]
    omega
theorem bytesOf_add (a b : ByteArray) : bytesOf (a ++ b) = bytesOf a ++ bytesOf b := by simp [bytesOf, ByteArray.data_append]

theorem live_bytes {B g : Nat} {xs : List Int} {safe : Nat} {room : Int} {w : World} (h : Live B w g xs safe room) (e : TypeId) (s : ByteArray) : Live B (Lib.bytesWorld w e s) g xs safe room := by
  obtain ⟨hg, v, hb, ho⟩ := h
  have hbl := bytes_below (Below.refl w.heap.size w) (Nat.le_refl _) e s
  exact ⟨hg, v, blk_below hb hbl, pw_own_below ho hbl⟩

set_option maxHeartbeats 4000000 in
theorem safe_law (A0 A1 : Option Addr) (c0 c1 : Nat) (xs ys : List ByteArray) (keep : Int) (y : ByteArray) (w : World) (h0 : ReadsOf Value.string ByteArray.empty w A0 xs.length xs) (h1 : ReadsOf Value.string ByteArray.empty w A1 ys.length ys) :
    Calls Try.prog 13 #[.slice A0 xs.length c0, .slice A1 ys.length c1, .int .i64 keep, .string y] w fun e w' => e = .returned (.bool true) ∧ Below w.heap.size w w' := by
  have HR0 := Aside0.mk h0
  have HR1 := Aside0.mk h1
  clear h0 h1
  go_enter Try.func13, Try.ntmps13
  go_upto_block 0 with (first
    | (go_at_call 39; (with_reducible refine (awake_calls w).mono ?_); rintro e w1 ⟨rfl, hb⟩; have B1 := Aside0.mk hb; clear hb)
    | (go_at_call 40; (with_reducible refine (new_live w.heap.size 100000 (by decide) w1 B1.out.size).mono ?_); rintro e w2 ⟨g, rfl, hs, hb⟩; have S2 := Aside0.mk hs; have B2 := Aside0.mk (below_then B1.out B1.out.size hb); clear hs hb))
  go_cut [10] (fun v10 wx => v10 = .string (catTo (xs.take 10)) ∧ Live w.heap.size wx g (bytesOf (catTo (xs.take 10))) 0 100000 ∧ Below w.heap.size w wx)
  case first =>
    go_wp2
    go_loopw [10, 12] (fun a i wr => ∃ k : Nat, k ≤ xs.length ∧ k ≤ 10 ∧ i = .int .i64 k ∧ a = .string (catTo (xs.take k)) ∧ Live w.heap.size wr g (bytesOf (catTo (xs.take k))) 0 100000 ∧ Below w.heap.size w wr) (fun _ i _ => 10 - (intOf i).toNat)
    case atStart => exact ⟨0, by omega, by omega, rfl, rfl, S2.out, B2.out⟩
    case round =>
      obtain ⟨k, hk, hk10, rfl, rfl, hs, hb⟩ := hrel
      have HS := Aside0.mk hs
      have HB := Aside0.mk hb
      clear hs hb
      by_cases hlt : k < xs.length
      · have q1 : decide ((k : Int) < (xs.length : Int)) = true := decide_eq_true (by omega)
        by_cases h10 : k < 10
        · have q2 : decide ((k : Int) < 10) = true := decide_eq_true (by omega)
          obtain ⟨ad0, e0, k0⟩ := (HR0.out.below HB.out).at_ (k : Int) (by omega) (by omega)
          subst e0
          rw [Int.toNat_natCast] at k0
          have HN := Aside0.mk (catTo_next xs k hlt)
          have HZ := catTo_size xs k (by omega)
          generalize rdOf ByteArray.empty xs (k : Int) = s at k0 HN
          generalize catTo (xs.take k) = a at HS HN HZ ⊢
          have hc60 := cut60_size s
          have HL := Aside0.mk (show ((bytesOf a).length : Int) + (cut60 s).size ≤ 100000 by rw [bytesOf_length]; omega)
          have hno : ¬ 9223372036854775807 < a.size + (cut60 s).size := by omega
          clear hc60 HZ
          go_wp2_with (first
            | (go_at_call 24; (with_reducible refine (cut_calls _ _).mono ?_); rintro e w3 ⟨rfl, rfl⟩)
            | (go_at_call 41; (with_reducible refine (append_live w.heap.size g (bytesOf a) 0 100000 wr HS.out _ HB.out.size HL.out (by decide)).mono ?_); rintro e w4 ⟨rfl, hs, hb⟩; have S4 := Aside0.mk hs; have B4 := Aside0.mk (HB.out.trans hb); clear hs hb))
          exact ⟨⟨k + 1, by omega, by omega, by go_num, by rw [HN.out], by rw [HN.out, bytesOf_add]; exact S4.out, B4.out⟩, by simp [intOf]; omega⟩
        · have q2 : decide ((k : Int) < 10) = false := decide_eq_false (by omega)
          obtain rfl : k = 10 := by omega
          go_wp2
          go_meet
          exact ⟨rfl, HS.out, HB.out⟩
      · have q1 : decide ((k : Int) < (xs.length : Int)) = false := decide_eq_false (by omega)
        have HT := Aside0.mk (show xs.take 10 = xs.take k by rw [List.take_of_length_le (by omega), List.take_of_length_le (by omega)])
        go_wp2
        go_meet
        rw [HT.out]
        exact ⟨rfl, HS.out, HB.out⟩
  case rest =>
    obtain ⟨rfl, hs, hb⟩ := hcut
    have HZ := Aside0.mk (show (catTo (xs.take 10)).size ≤ 600 by
      have h1 := catTo_size (xs.take 10) (xs.take 10).length (by omega)
      rw [List.take_length] at h1
      have h2 : (xs.take 10).length ≤ 10 := List.length_take_le _ _
      omega)
    generalize catTo (xs.take 10) = a at hs HZ
    have S3 := Aside0.mk hs
    have B3 := Aside0.mk hb
    clear hs hb
    go_upto_block 2 with (first
      | (go_at_call 42; (with_reducible refine (sync_live w.heap.size g (bytesOf a) 0 100000 wc S3.out B3.out.size).mono ?_); rintro e w3 ⟨rfl, hs, hb⟩; have S4 := Aside0.mk hs; have B4 := Aside0.mk (B3.out.trans hb); clear hs hb))
    rw [bytesOf_length] at S4
    go_cut [11] (fun v11 wx => v11 = .string (catTo (ys.take 10)) ∧ Live w.heap.size wx g (bytesOf a ++ bytesOf (catTo (ys.take 10))) a.size 100000 ∧ Below w.heap.size w wx)
    case first =>
      go_wp2
      go_loopw [11, 13] (fun t i wr => ∃ k : Nat, k ≤ ys.length ∧ k ≤ 10 ∧ i = .int .i64 k ∧ t = .string (catTo (ys.take k)) ∧ Live w.heap.size wr g (bytesOf a ++ bytesOf (catTo (ys.take k))) a.size 100000 ∧ Below w.heap.size w wr) (fun _ i _ => 10 - (intOf i).toNat)
      case atStart => exact ⟨0, by omega, by omega, rfl, rfl, by rw [List.take_zero, catTo_nil, show bytesOf ⟨#[]⟩ = [] from rfl, List.append_nil]; exact S4.out, B4.out⟩
      case round =>
        obtain ⟨k, hk, hk10, rfl, rfl, hs, hb⟩ := hrel
        have HS := Aside0.mk hs
        have HB := Aside0.mk hb
        clear hs hb
        by_cases hlt : k < ys.length
        · have q1 : decide ((k : Int) < (ys.length : Int)) = true := decide_eq_true (by omega)
          by_cases h10 : k < 10
          · have q2 : decide ((k : Int) < 10) = true := decide_eq_true (by omega)
            obtain ⟨ad0, e0, k0⟩ := (HR1.out.below HB.out).at_ (k : Int) (by omega) (by omega)
            subst e0
            rw [Int.toNat_natCast] at k0
            have HN := Aside0.mk (catTo_next ys k hlt)
            have HZ2 := catTo_size ys k (by omega)
            generalize rdOf ByteArray.empty ys (k : Int) = s at k0 HN
            generalize catTo (ys.take k) = t at HS HN HZ2 ⊢
            have hc60 := cut60_size s
            have HL := Aside0.mk (show ((bytesOf a ++ bytesOf t).length : Int) + (cut60 s).size ≤ 100000 by have := HZ.out; rw [List.length_append, bytesOf_length, bytesOf_length]; omega)
            have hno : ¬ 9223372036854775807 < t.size + (cut60 s).size := by omega
            clear hc60 HZ2
            go_wp2_with (first
              | (go_at_call 24; (with_reducible refine (cut_calls _ _).mono ?_); rintro e w3 ⟨rfl, rfl⟩)
              | (go_at_call 41; (with_reducible refine (append_live w.heap.size g (bytesOf a ++ bytesOf t) a.size 100000 wr HS.out _ HB.out.size HL.out (by decide)).mono ?_); rintro e w4 ⟨rfl, hs, hb⟩; have S5 := Aside0.mk hs; have B5 := Aside0.mk (HB.out.trans hb); clear hs hb))
            exact ⟨⟨k + 1, by omega, by omega, by go_num, by rw [HN.out], by rw [HN.out, bytesOf_add, ← List.append_assoc]; exact S5.out, B5.out⟩, by simp [intOf]; omega⟩
          · have q2 : decide ((k : Int) < 10) = false := decide_eq_false (by omega)
            obtain rfl : k = 10 := by omega
            go_wp2
            go_meet
            exact ⟨rfl, HS.out, HB.out⟩
        · have q1 : decide ((k : Int) < (ys.length : Int)) = false := decide_eq_false (by omega)
          have HT := Aside0.mk (show ys.take 10 = ys.take k by rw [List.take_of_length_le (by omega), List.take_of_length_le (by omega)])
          go_wp2
          go_meet
          rw [HT.out]
          exact ⟨rfl, HS.out, HB.out⟩
    case rest =>
      obtain ⟨rfl, hs, hb⟩ := hcut
      have HT := Aside0.mk (show (catTo (ys.take 10)).size ≤ 600 by
        have h1 := catTo_size (ys.take 10) (ys.take 10).length (by omega)
        rw [List.take_length] at h1
        have h2 : (ys.take 10).length ≤ 10 := List.length_take_le _ _
        omega)
      generalize catTo (ys.take 10) = t at hs HT
      have S5 := Aside0.mk hs
      have B5 := Aside0.mk hb
      clear hs hb
      have ha6 := HZ.out
      have ht6 := HT.out
      obtain ⟨K0, m1⟩ : ∃ K0 : Int, (if keep < 0 then (0 : Int) else keep) = K0 := ⟨_, rfl⟩
      obtain ⟨k, m2, hk⟩ : ∃ k : Nat, (if (t.size : Int) < K0 then (t.size : Int) else K0) = (k : Int) ∧ k ≤ t.size := ⟨(if (t.size : Int) < K0 then (t.size : Int) else K0).toNat, by omega, by omega⟩
      have HK := Aside0.mk (show k = (min (max keep 0) (((bytesOf a ++ bytesOf t).length : Int) - a.size)).toNat by rw [List.length_append, bytesOf_length, bytesOf_length]; omega)
      have HLE := Aside0.mk (show a.size ≤ (bytesOf a ++ bytesOf t).length ∧ (bytesOf a ++ bytesOf t).length ≤ 1000000 by rw [List.length_append, bytesOf_length, bytesOf_length]; omega)
      obtain ⟨L, hL⟩ : ∃ L, L = over ((bytesOf a ++ bytesOf t).take (a.size + k)) a.size y := ⟨_, rfl⟩
      obtain ⟨hLl, R, hG, hRs, hRb⟩ := crash_text a t y k hk L hL
      subst hRs
      have HL := Aside0.mk hL
      have HLl := Aside0.mk (show (L.length : Int) = (a.size : Int) + (R.size : Int) by omega)
      have HG := Aside0.mk hG
      have HRb := Aside0.mk hRb
      clear hL hLl hG hRb
      have hcv := print_bytes (P := Try.prog) 9 66 5 Try.underlying9 Try.underlying66 Try.underlying5 R
      have f1 := add_front a R
      have f2 := add_back a R
      rw [ByteArray.size_append] at f2
      go_wp2_with (first
        | (go_at_call 43; (with_reducible refine (crash_live w.heap.size g (bytesOf a ++ bytesOf t) a.size 100000 wc S5.out keep R.size _ HK.out HLE.out.1 HLE.out.2 B5.out.size).mono ?_); rintro e w5 ⟨rfl, hs, hb⟩; rw [← HL.out] at hs; have S6 := Aside0.mk hs; have B6 := Aside0.mk (B5.out.trans hb); clear hs hb)
        | (go_at_call 44; (with_reducible refine (bytes_live w.heap.size g L _ 100000 w5 S6.out).mono ?_); rintro e w6 ⟨rfl, rfl⟩; rw [HG.out])
        | (go_at_call 45; (with_reducible refine (len_live w.heap.size g L _ 100000 w5 S6.out).mono ?_); rintro e w6 ⟨rfl, rfl⟩; rw [HLl.out]))
      have HRd := Aside0.mk (bytes_reads w5 5 R (by omega))
      have HBd := Aside0.mk (bytes_below B6.out B6.out.size 5 R)
      have HSd := Aside0.mk (live_bytes S6.out 5 R)
      generalize grownCap w5 R.size 0 5 = cR
      generalize w5.heap.size = z at HRd ⊢
      generalize Lib.bytesWorld w5 5 R = w6 at HRd HBd HSd ⊢
      clear hcv m1 m2 f1 f2
      go_loop [105] (fun i => ∃ k : Nat, k ≤ R.size ∧ i = .int .i64 k) (fun i => R.size - (intOf i).toNat)
      case atStart => exact ⟨0, by omega, rfl⟩
      case round =>
        obtain ⟨k, hkR, rfl⟩ := hrel
        by_cases hlt : k < R.size
        · have q1 : decide ((k : Int) < (R.size : Int)) = true := decide_eq_true (by omega)
          obtain ⟨ad0, e0, k0⟩ := HRd.out.at_ (k : Int) (by omega) (by omega)
          cases e0
          rw [Int.toNat_natCast, rd_bytesOf, add_plain] at k0
          have hb := HRb.out k hlt
          have hkt : k < t.size := by omega
          by_cases hky : k < y.size
          · have q2 : decide ((k : Int) < (y.size : Int)) = true := decide_eq_true (by omega)
            rw [if_pos hky] at hb
            rw [hb] at k0
            have g1 : ∀ h : k < y.size, ((y[k]'h).toNat : Int) = bt y (k : Int) := fun h => bt_at y (k : Int) (by simpa using h)
            generalize bt y (k : Int) = b at k0 g1
            clear hb
            go_wp2
            exact ⟨⟨k + 1, by omega, by go_num⟩, by simp [intOf]; omega⟩
          · have q2 : decide ((k : Int) < (y.size : Int)) = false := decide_eq_false (by omega)
            rw [if_neg hky] at hb
            rw [hb] at k0
            have g1 : ∀ h : k < t.size, ((t[k]'h).toNat : Int) = bt t (k : Int) := fun h => bt_at t (k : Int) (by simpa using h)
            generalize bt t (k : Int) = b at k0 g1
            clear hb
            go_wp2
            exact ⟨⟨k + 1, by omega, by go_num⟩, by simp [intOf]; omega⟩
        · have q1 : decide ((k : Int) < (R.size : Int)) = false := decide_eq_false (by omega)
          go_wp2_with (first
            | (go_at_call 46; (with_reducible refine (safe_live w.heap.size g L _ 100000 w6 HSd.out).mono ?_); rintro e w7 ⟨rfl, rfl⟩)
            | (go_at_call 45; (with_reducible refine (len_live w.heap.size g L _ 100000 w6 HSd.out).mono ?_); rintro e w7 ⟨rfl, rfl⟩; rw [HLl.out]))
          go_ret
          exact ⟨rfl, HBd.out⟩
end Go.Proofs.Ythdnlhcepndncaa.Stores

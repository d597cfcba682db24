import Derived.Test.YthdnlhcepndncaaStore4
namespace Go.Proofs.Ythdnlhcepndncaa.Stores
open Go.RowKit Go.Proofs.YthdnlhcepndncaaW.PrintWords Go.Proofs.YthdnlhcepndncaaW.PrintLast Go.Proofs.YthdnlhcepndncaaW.PrintMore Go.Proofs.Ythdnlhcepndncaa.Copy
set_option linter.unusedVariables false
set_option linter.unusedSimpArgs false

/-- A store that has power for good. -/
def Live (B : Nat) (w : World) (g : Nat) (xs : List Int) (safe : Nat) (room : Int) : Prop := IsStore B w g xs safe room (-1) false

theorem new_live (B : Nat) (room : Int) (hr : 0 ≤ room) (w : World) (hB : B ≤ w.heap.size) : Calls Try.prog 40 #[.int .i64 room] w fun e w' => ∃ g, e = .returned (.pointer (some ⟨g, 0, none⟩)) ∧ Live B w' g [] 0 room ∧ Below w.heap.size w w' :=
  new_calls B room hr w hB

theorem append_live (B g : Nat) (xs : List Int) (safe : Nat) (room : Int) (w : World) (h : Live B w g xs safe room) (y : ByteArray) (hB : B ≤ w.heap.size) (hr : (xs.length : Int) + y.size ≤ room) (hr2 : room ≤ 1000000) : Calls Try.prog 41 #[.pointer (some ⟨g, 0, none⟩), .string y] w fun e w' =>
    e = .returned (.int .i64 0) ∧ Live B w' g (xs ++ bytesOf y) safe room ∧ Below B w w' :=
  append_ok B g xs safe room (-1) false w h y rfl (by decide) hB hr hr2

theorem sync_live (B g : Nat) (xs : List Int) (safe : Nat) (room : Int) (w : World) (h : Live B w g xs safe room) (hB : B ≤ w.heap.size) : Calls Try.prog 42 #[.pointer (some ⟨g, 0, none⟩)] w fun e w' =>
    e = .returned (.int .i64 0) ∧ Live B w' g xs xs.length room ∧ Below B w w' :=
  sync_calls B g xs safe room (-1) false w h (by decide) hB

theorem crash_live (B g : Nat) (xs : List Int) (safe : Nat) (room : Int) (w : World) (h : Live B w g xs safe room) (keep : Int) (k : Nat) (y : ByteArray) (hk : k = (min (max keep 0) ((xs.length : Int) - safe)).toNat) (hs1 : safe ≤ xs.length) (hl : xs.length ≤ 1000000) (hB : B ≤ w.heap.size) : Calls Try.prog 43 #[.pointer (some ⟨g, 0, none⟩), .int .i64 keep, .string y] w fun e w' =>
    e = .returned (.tuple #[]) ∧ Live B w' g (over (xs.take (safe + k)) safe y) (safe + k) room ∧ Below B w w' := by
  have := crash_calls B g xs safe room (-1) false w h keep _ _ y rfl rfl hs1 hl hB
  have e : (if (xs.length : Int) - safe < (if keep < 0 then 0 else keep) then (xs.length : Int) - safe else (if keep < 0 then 0 else keep)) = (k : Int) := by omega
  rw [e, Int.toNat_natCast] at this
  refine this.mono fun e w' h => ?_
  have h2 := h.2.1
  rw [← Int.natCast_add] at h2
  exact ⟨h.1, h2, h.2.2⟩

theorem bytes_live (B g : Nat) (xs : List Int) (safe : Nat) (room : Int) (w : World) (h : Live B w g xs safe room) : Calls Try.prog 44 #[.pointer (some ⟨g, 0, none⟩)] w fun e w' => e = .returned (.string (strOfNums xs)) ∧ w = w' :=
  (bytes_calls B g xs safe room (-1) false w h).mono fun _ _ h => ⟨h.1, h.2.symm⟩
theorem len_live (B g : Nat) (xs : List Int) (safe : Nat) (room : Int) (w : World) (h : Live B w g xs safe room) : Calls Try.prog 45 #[.pointer (some ⟨g, 0, none⟩)] w fun e w' => e = .returned (.int .i64 xs.length) ∧ w = w' :=
  (len_calls B g xs safe room (-1) false w h).mono fun _ _ h => ⟨h.1, h.2.symm⟩
theorem safe_live (B g : Nat) (xs : List Int) (safe : Nat) (room : Int) (w : World) (h : Live B w g xs safe room) : Calls Try.prog 46 #[.pointer (some ⟨g, 0, none⟩)] w fun e w' => e = .returned (.int .i64 safe) ∧ w = w' :=
  (safe_calls B g xs safe room (-1) false w h).mono fun _ _ h => ⟨h.1, h.2.symm⟩

set_option maxHeartbeats 4000000 in
theorem awake_calls (w : World) : Calls Try.prog 39 #[] w fun e w' => e = .returned (.bool true) ∧ Below w.heap.size w w' := by
  have HX1 := Aside0.mk (show ([] : List Int) ++ bytesOf ⟨#[97, 98]⟩ = [97, 98] from rfl)
  have HX2 := Aside0.mk (show ([97, 98] : List Int) ++ bytesOf ⟨#[99, 100, 101]⟩ = [97, 98, 99, 100, 101] from rfl)
  have HX3 := Aside0.mk (show over (([97, 98, 99, 100, 101] : List Int).take (2 + 2)) 2 ⟨#[120]⟩ = [97, 98, 120, 100] from rfl)
  have HX4 := Aside0.mk (show strOfNums [97, 98, 120, 100] = ⟨#[97, 98, 120, 100]⟩ from rfl)
  go_enter Try.func39, Try.ntmps39
  go_wp2_with (first
    | (go_at_call 40; (with_reducible refine (new_live w.heap.size 20 (by decide) w (Nat.le_refl _)).mono ?_); rintro e w1 ⟨g, rfl, hs, hb⟩; have S1 := Aside0.mk hs; have B1 := Aside0.mk hb; clear hs hb)
    | (go_at_call 41; (with_reducible refine (append_live w.heap.size g [] 0 20 w1 S1.out _ B1.out.size (by decide) (by decide)).mono ?_); rintro e w2 ⟨rfl, hs, hb⟩; rw [HX1.out] at hs; have S2 := Aside0.mk hs; have B2 := Aside0.mk (B1.out.trans hb); clear hs hb)
    | (go_at_call 42; (with_reducible refine (sync_live w.heap.size g [97, 98] 0 20 w2 S2.out B2.out.size).mono ?_); rintro e w3 ⟨rfl, hs, hb⟩; have S3 := Aside0.mk (show Live w.heap.size w3 g [97, 98] 2 20 from hs); have B3 := Aside0.mk (B2.out.trans hb); clear hs hb)
    | (go_at_call 41; (with_reducible refine (append_live w.heap.size g [97, 98] 2 20 w3 S3.out _ B3.out.size (by decide) (by decide)).mono ?_); rintro e w4 ⟨rfl, hs, hb⟩; rw [HX2.out] at hs; have S4 := Aside0.mk hs; have B4 := Aside0.mk (B3.out.trans hb); clear hs hb)
    | (go_at_call 43; (with_reducible refine (crash_live w.heap.size g [97, 98, 99, 100, 101] 2 20 w4 S4.out 2 2 _ (by decide) (by decide) (by decide) B4.out.size).mono ?_); rintro e w5 ⟨rfl, hs, hb⟩; rw [HX3.out] at hs; have S5 := Aside0.mk (show Live w.heap.size w5 g [97, 98, 120, 100] 4 20 from hs); have B5 := Aside0.mk (B4.out.trans hb); clear hs hb)
    | (go_at_call 44; (with_reducible refine (bytes_live w.heap.size g [97, 98, 120, 100] 4 20 w5 S5.out).mono ?_); rintro e w6 ⟨rfl, hw⟩; subst hw; rw [HX4.out])
    | (go_at_call 46; (with_reducible refine (safe_live w.heap.size g [97, 98, 120, 100] 4 20 w5 S5.out).mono ?_); rintro e w6 ⟨rfl, hw⟩; subst hw))
  go_ret
  exact ⟨rfl, B5.out⟩
end Go.Proofs.Ythdnlhcepndncaa.Stores

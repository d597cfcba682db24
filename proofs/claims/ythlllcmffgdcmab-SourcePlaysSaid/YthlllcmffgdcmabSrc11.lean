import Derived.Test.YthlllcmffgdcmabSrc10
import Derived.Outline
namespace Go.Proofs.Ythlllcmffgdcmab.Src
open Go.RowKit Go.Proofs.YthlllcmffgdcmabW.PrintWords Go.Proofs.YthlllcmffgdcmabW.PrintLast Go.Proofs.YthlllcmffgdcmabW.PrintMore
attribute [local go_sem] max2_int min2_int max_two min_two
set_option linter.unusedVariables false
set_option linter.unusedSimpArgs false

/-- How many there are to be drawn from. -/
def clampN (n : Int) : Int := if fitN n < 1 then 1 else fitN n
/-- What was drawn so far fits the asks. -/
def Fits (qs V : List (Int × Int)) : Prop := ∀ j, j < V.length → (V.getD j (0, 0)).1 = fitK (qs.getD j (0, 0)).1 ∧ 0 ≤ (V.getD j (0, 0)).2 ∧ (V.getD j (0, 0)).2 < clampN (qs.getD j (0, 0)).2
theorem Fits.push {qs V : List (Int × Int)} (h : Fits qs V) {a b : Int} (ha : a = fitK (qs.getD V.length (0, 0)).1) (h0 : 0 ≤ b) (h1 : b < clampN (qs.getD V.length (0, 0)).2) : Fits qs (V ++ [(a, b)]) := fun j hj => by
  rcases Nat.lt_or_ge j V.length with h2 | h2
  · have e : (V ++ [(a, b)]).getD j (0, 0) = V.getD j (0, 0) := by simp [List.getD_eq_getElem?_getD, List.getElem?_append_left h2]
    rw [e]
    exact h j h2
  · obtain rfl : j = V.length := by simp at hj; omega
    have e : (V ++ [(a, b)]).getD V.length (0, 0) = (a, b) := by simp [List.getD_eq_getElem?_getD]
    rw [e]
    exact ⟨ha, h0, h1⟩

/-- Behind the first loop's k-th round. -/
structure Dr (B s o : Nat) (xs : List Int) (qs : List (Int × Int)) (vl : Value) (w wr : World) (k : Nat) (vt vg : Value) (V : List (Int × Int)) : Prop where
  k40 : k ≤ 40
  kx : k ≤ xs.length
  kq : k ≤ qs.length
  len : V.length = k
  orc : Orc B wr o xs k vl
  src : Srce B wr s 59 60 o vt k (recs V) .nilFunc
  ne : NeRow vl vt
  got : wr.ownsRow B 3 1 vg k (nums .i64 (V.map Prod.snd))
  fits : Fits qs V
  below : Below B w wr
theorem Dr.step {B s o : Nat} {xs : List Int} {qs : List (Int × Int)} {vl : Value} {w wr w' : World} {k : Nat} {vt vg : Value} {V : List (Int × Int)} (h : Dr B s o xs qs vl w wr k vt vg V) (hb : Below wr.heap.size wr w') (hB : B ≤ w.heap.size) : Dr B s o xs qs vl w w' k vt vg V :=
  ⟨h.k40, h.kx, h.kq, h.len, h.orc.below hb, h.src.below hb, h.ne, pw_own_below h.got hb, h.fits, h.below.trans (hb.mono (Nat.le_trans hB h.below.size))⟩

theorem Srce.kept {B : Nat} {w w' : World} {S : Nat → Prop} {s K L o : Nat} {vt : Value} {nt : Nat} {rs : List Value} {see : Value} (h : Srce B w s K L o vt nt rs see) (hk : Kept w w' S) (ho : ¬ S s) (hv : ∀ k, vt.ownBlock = some k → ¬ S k) : Srce B w' s K L o vt nt rs see := ⟨h.ge, blk_kept h.blk hk ho, own_kept h.row hk hv⟩
theorem own_far {w w' : World} {B n s o K L nt : Nat} {vg vt : Value} {t : TypeId} {cs : Array Value} {ys rs : List Value} {see : Value} (h : w.ownsRow B 3 1 vg n ys) (hS : Srce B w s K L o vt nt rs see) (hO : w.heap[o]? = some (.cells cs t (0, 0))) (ht : 3 ≠ t)
    (hk : Kept w w' (fun k => k = o ∨ k = s ∨ vt.ownBlock = some k)) : w'.ownsRow B 3 1 vg n ys := own_kept h hk fun g hg hh => by
  rcases hh with hh | hh | hh
  · subst hh; exact own_ne h hO ht hg.symm
  · subst hh; exact own_ne h hS.blk (by decide) hg.symm
  · rcases own_type_ne h hS.row (by decide) with h' | h'
    · rw [h'] at hg; cases hg
    · exact h' (hg.trans hh.symm)
theorem row_far {w : World} {B B' n n' size : Nat} {vg v : Value} {e : TypeId} {xs ys : List Value} (h : w.ownsRow B 3 1 vg n ys) (h' : w.ownsRow B' e size v n' xs) (he : e ≠ 3) : ∀ k, v.ownBlock = some k → ¬ vg.ownBlock = some k := fun k hk hh => by
  rcases own_type_ne h' h he with h1 | h1
  · rw [h1] at hk; cases hk
  · exact h1 (hk.trans hh.symm)
/-- The row of what came has grown: the source is as it was. -/
theorem Orc.far {B B' : Nat} {w w' : World} {o n : Nat} {l : List Int} {k : Nat} {vl vg : Value} {ys : List Value} (h : Orc B w o l k vl) (hr : w.ownsRow B' 3 1 vg n ys) (hg : w.grownBy w' vg.ownBlock) : Orc B w' o l k vl :=
  h.kept (S := fun k => vg.ownBlock = some k) (Kept.of_grown hg (Kept.refl _ _) (fun k hk => .inl hk)) (fun hh => own_ne hr h.blk (by decide) hh.symm) (row_far hr h.row (by decide))
theorem Srce.far {B B' : Nat} {w w' : World} {s K L o n : Nat} {vt vg : Value} {nt : Nat} {rs ys : List Value} {see : Value} (h : Srce B w s K L o vt nt rs see) (hr : w.ownsRow B' 3 1 vg n ys) (hg : w.grownBy w' vg.ownBlock) : Srce B w' s K L o vt nt rs see :=
  h.kept (S := fun k => vg.ownBlock = some k) (Kept.of_grown hg (Kept.refl _ _) (fun k hk => .inl hk)) (fun hh => own_ne hr h.blk (by decide) hh.symm) (row_far hr h.row (by decide))
theorem clamp_fit (n : Int) : 1 ≤ clampN n ∧ clampN n ≤ 1099511627776 := by
  have := fitN_le n
  unfold clampN
  split <;> omega

/-- Behind the second loop's j-th round. -/
structure Rp (B s o : Nat) (V : List (Int × Int)) (vl : Value) (w wr : World) (j : Nat) (vt vg : Value) (rs : List Value) : Prop where
  jn : j ≤ V.length
  tap : Tap B wr o V j vl
  src : Srce B wr s 63 64 o vt j rs .nilFunc
  ne : NeRow vl vt
  got : wr.ownsRow B 3 1 vg V.length (nums .i64 (V.map Prod.snd))
  below : Below B w wr
theorem Rp.step {B s o : Nat} {V : List (Int × Int)} {vl : Value} {w wr w' : World} {j : Nat} {vt vg : Value} {rs : List Value} (h : Rp B s o V vl w wr j vt vg rs) (hb : Below wr.heap.size wr w') (hB : B ≤ w.heap.size) : Rp B s o V vl w w' j vt vg rs :=
  ⟨h.jn, h.tap.below hb, h.src.below hb, h.ne, pw_own_below h.got hb, h.below.trans (hb.mono (Nat.le_trans hB h.below.size))⟩

theorem rd_snd {V : List (Int × Int)} {j : Nat} (h : j < V.length) : rd (V.map Prod.snd) (j : Int) = (V.getD j (0, 0)).2 := by simp [rd, List.getD_eq_getElem?_getD, h]
theorem got_at {w : World} {B c : Nat} {A : Option Addr} {V : List (Int × Int)} (h : w.ownsRow B 3 1 (.slice A V.length c) V.length (nums .i64 (V.map Prod.snd))) {j : Nat} (hj : j < V.length) : ∃ ad, A = some ad ∧ w.cell? (ad.add j) = some (.int .i64 (V.getD j (0, 0)).2) := by
  obtain ⟨ad, e, hc⟩ := (own_reads' h).at_ (j : Int) (by omega) (by omega)
  rw [rd_snd hj, Int.toNat_natCast] at hc
  exact ⟨ad, e, hc⟩
theorem w41 {k : Nat} (h : k < 40) : wrap64 ((k : Int) + 1) = (k : Int) + 1 := by unfold wrap64; omega
theorem info3 : (Try.prog.info? 3).map (fun i => (i.zero, i.size, i.bytes)) = some (some (.int .i64 0), 1, 8) := by kernel_rfl

set_option maxHeartbeats 4000000 in
set_option maxRecDepth 100000 in
theorem again_law (A0 A1 : Option Addr) (c0 c1 : Nat) (xs : List Int) (qs : List (Int × Int)) (w : World) (h0 : ReadsInt w .u64 A0 xs.length xs) (hx : xs.length * 8 ≤ 140737488355328) (hp : ∀ x ∈ xs, 0 ≤ x ∧ x < 18446744073709551616) (h1 : Asks w A1 qs.length qs) :
    Calls Try.prog 5 #[.slice A0 xs.length c0, .slice A1 qs.length c1] w fun e w' => e = .returned (.bool true) ∧ Below w.heap.size w w' := by
  have HR0 := Aside0.mk h0
  have HA := Aside0.mk h1
  have HX := Aside0.mk hx
  have HP := Aside0.mk hp
  clear h0 h1 hx hp
  go_enter Try.func5, Try.ntmps5
  go_upto_block 0 with (first
    | (go_at_call 15; (with_reducible refine (awake_calls w).mono ?_); rintro e w1 ⟨rfl, hb⟩; have B1 := Aside0.mk hb; clear hb)
    | (go_at_call 19; (with_reducible refine (oracle_calls A0 c0 xs w1 (HR0.out.below B1.out) HX.out).mono ?_); rintro e w2 ⟨s, o, vl, rfl, hO, hS, hb⟩; have HO := Aside0.mk (hO.lower B1.out.size); have HS := Aside0.mk (hS.lower B1.out.size); have HB := Aside0.mk (below_step B1.out hb); clear hO hS hb))
  have HD0 := Aside0.mk (show Dr w.heap.size s o xs qs vl w w2 0 (.slice none 0 0) (.slice none 0 0) [] from ⟨by omega, by omega, by omega, rfl, HO.out, HS.out, ne_nil' _, own_nil _ _ _ _, fun j hj => by simp at hj, HB.out⟩)
  have HD := Aside0.mk (show Dr w.heap.size s o xs qs vl w (w2.alloc (.cells #[] 3)) 0 (.slice none 0 0) (.slice (some ⟨w2.heap.size, 0, none⟩) 0 0) [] from
    { HD0.out.step (below_alloc (Below.refl _ _) (.cells #[] 3)) (Nat.le_refl _) with got := own_empty w2 _ 3 1 HB.out.size })
  clear HD0 HO HS HB
  go_cut [6] (fun vg wx => ∃ (k : Nat) (vt : Value) (V : List (Int × Int)), Dr w.heap.size s o xs qs vl w wx k vt vg V)
  case first =>
    go_wp2
    go_loopw [6, 7] (fun vg i wr => ∃ (k : Nat) (vt : Value) (V : List (Int × Int)), i = .int .i64 k ∧ Dr w.heap.size s o xs qs vl w wr k vt vg V) (fun _ i _ => 40 - (intOf i).toNat)
    case atStart => exact ⟨0, _, _, rfl, HD.out⟩
    case round =>
      clear HD
      obtain ⟨k, vt, V, rfl, hd⟩ := hrel
      have HD := Aside0.mk hd
      clear hd
      have hB0 := Aside0.mk HD.out.below.size
      have hk40 := HD.out.k40
      have hkx := HD.out.kx
      have hkq := HD.out.kq
      by_cases ha : k < qs.length
      · have q1 : decide ((k : Int) < (qs.length : Int)) = true := decide_eq_true (by omega)
        by_cases h40 : k < 40
        · have q2 : decide ((k : Int) < 40) = true := decide_eq_true (by omega)
          obtain ⟨r, hr⟩ : ∃ r : Int, (xs.length : Int) - (k : Int) = r := ⟨_, rfl⟩
          have HLF := Aside0.mk (oleft_calls w.heap.size s o xs k vl vt k (recs V) .nilFunc r wr HD.out.orc HD.out.src HD.out.kx hr)
          by_cases hx : k < xs.length
          · have q3 : decide ((0 : Int) < r) = true := decide_eq_true (by omega)
            have HXL := Aside0.mk (And.intro ha (And.intro h40 hx))
            obtain ⟨ad, e1, a0, a1⟩ := (HA.out.below HD.out.below).2 k ha
            subst e1
            rw [add_field ad (k * 2) 1 (by decide)] at a1
            obtain ⟨kk, hkk⟩ : ∃ kk, (qs.getD k (0, 0)).1 = kk := ⟨_, rfl⟩
            obtain ⟨nn, hnn⟩ : ∃ nn, (qs.getD k (0, 0)).2 = nn := ⟨_, rfl⟩
            rw [hkk] at a0
            rw [hnn] at a1
            have HQ := Aside0.mk (And.intro hkk hnn)
            obtain ⟨m, hm⟩ : ∃ m : Int, clampN nn = m := ⟨_, rfl⟩
            have hmm := clamp_fit nn
            rw [hm] at hmm
            obtain ⟨x, hxe⟩ : ∃ x, rd xs (k : Int) = x := ⟨_, rfl⟩
            have hxr : 0 ≤ x ∧ x < 18446744073709551616 := HP.out x (by rw [← hxe]; simp [rd, hx])
            obtain ⟨v, hv⟩ : ∃ v, x % m = v := ⟨_, rfl⟩
            have hv0 : 0 ≤ v := by rw [← hv]; exact Int.emod_nonneg _ (by omega)
            have hv1 : v < m := by rw [← hv]; exact Int.emod_lt_of_pos _ (by omega)
            have HDR := Aside0.mk (fun (W : World) (hO : Orc w.heap.size W o xs k vl) (hS : Srce w.heap.size W s 59 60 o vt k (recs V) .nilFunc) (hB : w.heap.size ≤ W.heap.size) =>
              odraw21_k w.heap.size s o xs k vl vt k (recs V) (fitK kk) (fitN nn) m v W hO hS HD.out.ne hB hx hm (by omega) (by rw [hxe]; exact hxr.1) (by rw [hxe]; exact hv) hv0 hv1 (by omega))
            obtain ⟨k1, hk1⟩ : ∃ k1, fitK kk = k1 := ⟨_, rfl⟩
            obtain ⟨n1, hn1⟩ : ∃ n1, fitN nn = n1 := ⟨_, rfl⟩
            rw [hk1, hn1] at HDR
            have HF := Aside0.mk (And.intro hk1 hn1)
            have HM := Aside0.mk (And.intro hm (And.intro hv0 hv1))
            clear hk1 hn1 hxe hkk hnn hmm hm hxr hv hv0 hv1 hr hk40 hkx hkq h40 hx
            go_wp2_with (first
              | (go_at_call 22; (with_reducible refine HLF.out.mono ?_); rintro e w3 ⟨rfl, mm, hw⟩; have hb3 := (show Below wr.heap.size wr w3 from hw ▸ pw_below_drewN (Below.refl _ _) mm); have a03 := pw_cell_below hb3 a0; have a13 := pw_cell_below hb3 a1; have HD3 := Aside0.mk (HD.out.step hb3 (Nat.le_refl _)); clear hb3 hw a0 a1)
              | (go_at_call 20; (with_reducible refine (fit_calls kk nn _).mono ?_); rintro e w4 ⟨rfl, hb4⟩; rw [HF.out.1, HF.out.2]; have HD4 := Aside0.mk (HD3.out.step hb4 (Nat.le_refl _)); clear hb4 a03 a13)
              | (go_at_call 21; (with_reducible refine (HDR.out w4 HD4.out.orc HD4.out.src HD4.out.below.size).mono ?_); rintro e w5 ⟨rfl, vt5, hO5, hS5, hn5, hk5, hb5⟩; rw [zU_eq]; have HO5 := Aside0.mk (hO5.below (below_alloc (Below.refl _ _) (.cells #[.int .i64 0, .int .i64 0, .int .i64 0, .int .i64 0, .int .u64 0] 27))); have HS5 := Aside0.mk (hS5.below (below_alloc (Below.refl _ _) (.cells #[.int .i64 0, .int .i64 0, .int .i64 0, .int .i64 0, .int .u64 0] 27))); have HN5 := Aside0.mk hn5; have HG5 := Aside0.mk (show (w5.alloc (.cells #[.int .i64 0, .int .i64 0, .int .i64 0, .int .i64 0, .int .u64 0] 27)).ownsRow w.heap.size 3 1 u6 (V.map Prod.snd).length (nums .i64 (V.map Prod.snd)) from by rw [List.length_map, HD4.out.len]; exact (own_far HD4.out.got HD4.out.src HD4.out.orc.blk (by decide) hk5).alloc (.cells #[.int .i64 0, .int .i64 0, .int .i64 0, .int .i64 0, .int .u64 0] 27)); have HB5 := Aside0.mk ((HD4.out.below.trans hb5).alloc (Nat.le_trans HD4.out.below.size hb5.size) (.cells #[.int .i64 0, .int .i64 0, .int .i64 0, .int .i64 0, .int .u64 0] 27)); clear hO5 hS5 hn5 hk5 hb5)
              | (at_builtin; refine print_append_num (w0 := w) w.heap.size rfl _ _ 43 3 .i64 8 rfl Try.underlying43 info3 (by decide) u6 (V.map Prod.snd) v rfl (by simp [Act.eval, Act.put]) HG5.out HB5.out HB5.out.size (by rw [List.length_map, HD4.out.len]; have := HXL.out; omega) ?_; intro v1 w6 hown hbel hgr hat; have HD6 := Aside0.mk (show Dr w.heap.size s o xs qs vl w w6 (k + 1) vt5 v1 (V ++ [(k1, v)]) from ⟨by have := HXL.out; omega, by have := HXL.out; omega, by have := HXL.out; omega, by simp [HD4.out.len], HO5.out.far HG5.out hgr, by rw [recs_append]; exact HS5.out.far HG5.out hgr, HN5.out, by simpa [HD4.out.len] using hown, HD4.out.fits.push (by rw [HD4.out.len, HQ.out.1, HF.out.1]) HM.out.2.1 (by rw [HD4.out.len, HQ.out.2, HM.out.1]; exact HM.out.2.2), hbel⟩); clear hown hbel hgr hat))
            have hx3 : k < 40 := HXL.out.2.1
            have e4 := w41 hx3
            rw [e4]
            exact ⟨⟨k + 1, vt5, V ++ [(k1, v)], by go_num, HD6.out⟩, by clear e4; simp [intOf]; omega⟩
          · have q3 : decide ((0 : Int) < r) = false := decide_eq_false (by omega)
            go_wp2_with (go_at_call 22; (with_reducible refine HLF.out.mono ?_); rintro e w3 ⟨rfl, mm, hw⟩; have hb3 := (show Below wr.heap.size wr w3 from hw ▸ pw_below_drewN (Below.refl _ _) mm); have HD3 := Aside0.mk (HD.out.step hb3 (Nat.le_refl _)); clear hb3 hw)
            go_meet
            exact ⟨k, vt, V, HD3.out⟩
        · have q2 : decide ((k : Int) < 40) = false := decide_eq_false (by omega)
          go_wp2
          go_meet
          exact ⟨k, vt, V, HD.out⟩
      · have q1 : decide ((k : Int) < (qs.length : Int)) = false := decide_eq_false (by omega)
        go_wp2
        go_meet
        exact ⟨k, vt, V, HD.out⟩
  case rest =>
    clear HD
    obtain ⟨k, vt, V, hd⟩ := hcut
    have HL := Aside0.mk hd.len
    have hk1000 : k ≤ 1000 := by have := hd.k40; omega
    have hkq := hd.kq
    have HD := Aside0.mk hd
    obtain ⟨Ag, cg, rfl⟩ := own_slice hd.got
    clear hd
    go_upto_block 2 with (first
      | (go_at_call 24; (with_reducible refine (taken_calls w.heap.size s 59 60 o vt k V .nilFunc _ HD.out.src hk1000).mono ?_); rintro e w4 ⟨v4, rfl, hT, hb⟩; have HT := Aside0.mk hT; have HD4 := Aside0.mk (HD.out.step hb (Nat.le_refl _)); clear hb hT)
      | (go_at_call 23; (with_reducible refine (tape_calls _ k v4 V w4 HT.out HL.out hk1000).mono ?_); rintro e w5 ⟨s2, o2, vl2, rfl, hO2, hS2, hb⟩; have HR := Aside0.mk (show Rp w.heap.size s2 o2 V vl2 w w5 0 (.slice none 0 0) (.slice Ag k cg) [] from ⟨by omega, hO2.lower HD4.out.below.size, hS2.lower HD4.out.below.size, ne_nil' _, by rw [HL.out]; exact pw_own_below HD4.out.got hb, (HD4.out.step hb (Nat.le_refl _)).below⟩); clear hO2 hS2 hb))
    obtain rfl := HL.out
    have HFT := Aside0.mk HD.out.fits
    clear HT HD4 HD HL
    go_wp2
    go_loopw [69] (fun jv wr => ∃ (j : Nat) (vt2 : Value) (rs : List Value), jv = .int .i64 j ∧ Rp w.heap.size s2 o2 V vl2 w wr j vt2 (.slice Ag V.length cg) rs) (fun jv _ => V.length - (intOf jv).toNat)
    case atStart => exact ⟨0, _, _, rfl, HR.out⟩
    case round =>
      clear HR
      obtain ⟨j, vt2, rs, rfl, hr⟩ := hrel
      have HR := Aside0.mk hr
      have hjn := hr.jn
      clear hr
      by_cases hj : j < V.length
      · have q1 : decide ((j : Int) < (V.length : Int)) = true := decide_eq_true (by omega)
        obtain ⟨ag, eg, x0⟩ := got_at HR.out.got hj
        subst eg
        have hft := HFT.out j hj
        obtain ⟨ad, e1, a0, a1⟩ := (HA.out.below HR.out.below).2 j (by omega)
        subst e1
        rw [add_field ad (j * 2) 1 (by decide)] at a1
        obtain ⟨kk, hkk⟩ : ∃ kk, (qs.getD j (0, 0)).1 = kk := ⟨_, rfl⟩
        obtain ⟨nn, hnn⟩ : ∃ nn, (qs.getD j (0, 0)).2 = nn := ⟨_, rfl⟩
        rw [hkk] at a0 hft
        rw [hnn] at a1 hft
        obtain ⟨m, hm⟩ : ∃ m : Int, clampN nn = m := ⟨_, rfl⟩
        have hmm := clamp_fit nn
        rw [hm] at hmm hft
        obtain ⟨v, hv⟩ : ∃ v, (V.getD j (0, 0)).2 = v := ⟨_, rfl⟩
        rw [hv] at x0 hft
        have HDR := Aside0.mk (fun (W : World) (hR : Rp w.heap.size s2 o2 V vl2 w W j vt2 (.slice (some ag) V.length cg) rs) =>
          tdraw21_ok w.heap.size s2 o2 V j vl2 vt2 j rs (fitK kk) (fitN nn) m v W hR.tap hR.src hR.ne hR.below.size hj hm (by omega) hk1000 (Prod.ext hft.1 hv) hft.2.1 hft.2.2 (by omega))
        obtain ⟨k1, hk1⟩ : ∃ k1, fitK kk = k1 := ⟨_, rfl⟩
        obtain ⟨n1, hn1⟩ : ∃ n1, fitN nn = n1 := ⟨_, rfl⟩
        rw [hk1, hn1] at HDR
        have HF := Aside0.mk (And.intro hk1 hn1)
        have b0 : (j : Int) < (qs.length : Int) := by omega
        clear hk1 hn1 hv hft hm hmm hkk hnn
        go_wp2_with (first
          | (go_at_call 20; (with_reducible refine (fit_calls kk nn _).mono ?_); rintro e w6 ⟨rfl, hb6⟩; rw [HF.out.1, HF.out.2]; have HR6 := Aside0.mk (HR.out.step hb6 (Nat.le_refl _)); clear hb6 a0 a1 x0)
          | (go_at_call 21; (with_reducible refine (HDR.out w6 HR6.out).mono ?_); rintro e w7 ⟨rfl, vt7, hO7, hS7, hn7, hk7, hb7⟩; rw [zU_eq]; have HR7 := Aside0.mk (show Rp w.heap.size s2 o2 V vl2 w (w7.alloc (.cells #[.int .i64 0, .int .i64 0, .int .i64 0, .int .i64 0, .int .u64 0] 27)) (j + 1) vt7 (.slice (some ag) V.length cg) _ from Rp.step ⟨hj, hO7, hS7, hn7, own_far HR6.out.got HR6.out.src HR6.out.tap.blk (by decide) hk7, HR6.out.below.trans hb7⟩ (below_alloc (Below.refl _ _) _) (Nat.le_refl _)); clear hO7 hS7 hn7 hk7 hb7))
        exact ⟨⟨j + 1, vt7, _, by go_num, HR7.out⟩, by simp [intOf]; omega⟩
      · have q1 : decide ((j : Int) < (V.length : Int)) = false := decide_eq_false (by omega)
        obtain rfl : j = V.length := by omega
        go_wp2_with (first
          | (go_at_call 21; (with_reducible refine (tdraw21_dry w.heap.size s2 o2 V vl2 vt2 V.length rs 1 1 .nilFunc _ HR.out.tap HR.out.src HR.out.below.size).mono ?_); rintro e w7 ⟨rfl, hO7, hS7, hb7⟩; rw [zU_eq]; have HO7 := Aside0.mk (hO7.below (below_alloc (Below.refl _ _) (.cells #[.int .i64 0, .int .i64 0, .int .i64 0, .int .i64 0, .int .u64 0] 27))); have HS7 := Aside0.mk (hS7.below (below_alloc (Below.refl _ _) (.cells #[.int .i64 0, .int .i64 0, .int .i64 0, .int .i64 0, .int .u64 0] 27))); have HB7 := Aside0.mk ((HR.out.below.trans hb7).alloc (Nat.le_trans HR.out.below.size hb7.size) (.cells #[.int .i64 0, .int .i64 0, .int .i64 0, .int .i64 0, .int .u64 0] 27)); clear hO7 hS7 hb7)
          | (go_at_call 22; (with_reducible refine (tleft_calls w.heap.size s2 o2 V V.length vl2 vt2 V.length rs .nilFunc 0 _ HO7.out HS7.out (Nat.le_refl _) hk1000 (by omega)).mono ?_); rintro e w8 ⟨rfl, mm, hw⟩; have HB8 := Aside0.mk (drew_below HB7.out hw); clear hw))
        go_ret
        exact ⟨rfl, HB8.out⟩
end Go.Proofs.Ythlllcmffgdcmab.Src

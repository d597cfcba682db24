/- Draws one behind the other, from numbers or from decisions: the walk of SourcePlays. -/
import Derived.Test.YthlllcmffgdcmabSrc23
import Derived.Test.YthlllcmffgdcmabSrc21
namespace Go.Proofs.Ythlllcmffgdcmab.Src
open Go.RowKit Go.Proofs.YthlllcmffgdcmabW.PrintWords Go.Proofs.YthlllcmffgdcmabW.PrintLast Go.Proofs.YthlllcmffgdcmabW.PrintMore
open Go.Proofs.Ythlllcmffgdcmab.PSourceChains (S57 k57 eqA57 eqA25)
attribute [local go_sem] max2_int min2_int max_two min_two
attribute [local go_sem high] eqA57 eqA25
set_option linter.unusedVariables false
set_option linter.unusedSimpArgs false

theorem eqA27z (d : Nat) (w : World) : (Op.equalIn (d + 3) 27 (.agg #[.int .i64 0, .int .i64 0, .int .i64 0, .int .i64 0, .int .u64 0]) (.agg #[.int .i64 0, .int .i64 0, .int .i64 0, .int .i64 0, .int .u64 0])).run Try.prog w = .ok true w := by kernel_rfl
attribute [local go_sem high] eqA27z
theorem are_own1 {w : World} {B B' n c c' : Nat} {A A' : Option Addr} {T : List (Int × Int)} (h : w.ownsRow B 25 2 (.slice A n c) n (recs T)) (h' : w.ownsRow B' 57 2 (.slice A' n c') n (recs T)) (hT : T.length = n) (hl : n ≤ 1000) : Calls Try.prog 30 #[.slice A n c, .slice A' n c'] w fun e w' => e = .returned (.int .i64 0) ∧ ∃ m, w' = w.drewN m := by
  obtain ⟨h1, h2⟩ := decs_slice h hT
  obtain ⟨h3, h4⟩ := decs_slice h' hT
  exact are_calls w A A' n c c' T h1 h3 hT h2 h4 hl
def plays19_T : Bool × List (List Nat × List Nat) := (true, [([], []), ([], []), ([0, 1], [0, 1]), ([2], [2]), ([3], [3]), ([3], [3]), ([4, 5, 3], [3, 4, 5]), ([3, 6], [3, 6]), ([7, 3], [7]), ([8], [8]), ([9, 8, 8], [8, 9]), ([8], [8]), ([11, 8], [8, 11]), ([10, 12, 10, 8], [8, 10, 12]), ([13, 8], [8, 13]), ([8, 14], [8, 14]), ([15, 13], [15]), ([16], [16]), ([17, 16, 16], [16, 17]), ([16], [16]), ([19, 16], [16, 19]), ([20, 16], [16, 20]), ([16], [16]), ([22, 16], [16, 22]), ([23, 16], [16, 23]), ([21, 24, 16], [16, 21, 24]), ([18, 25, 16], [16, 18, 25]), ([16, 26], [16, 26])])
theorem plays19_tab : rtab .any (opsOf Try.f6 19) = plays19_T := by kernel_rfl
def plays21_T : Bool × List (List Nat × List Nat) := (true, [([], []), ([0], [0]), ([1], [1]), ([2], [2]), ([3, 2], [2, 3]), ([2], [2]), ([5, 2], [2, 5]), ([6, 2], [2, 6]), ([4, 7, 2], [2, 4, 7]), ([8, 2, 2], [2, 8]), ([9], [9]), ([10, 9], [9, 10]), ([9], [9]), ([11, 12, 9], [9, 11, 12]), ([9, 13, 2], [2, 9, 13]), ([14, 9, 2], [2, 14]), ([15], [15]), ([16, 15], [15, 16]), ([15], [15]), ([18, 15], [15, 18]), ([17, 19, 15], [15, 17, 19]), ([15, 20, 2], [2, 15, 20]), ([21, 15, 2], [2, 21]), ([22], [22]), ([23, 22], [22, 23]), ([22], [22]), ([25, 22], [22, 25]), ([26, 22], [22, 26]), ([27, 22], [22, 27]), ([24, 28, 22], [22, 24, 28]), ([22, 29, 2], [2, 22, 29]), ([2, 30], [2, 30]), ([31, 22], [31]), ([32], [32]), ([33, 32], [32, 33]), ([34, 32, 32], [32, 34]), ([35], [35]), ([35], [35]), ([36, 37, 35], [35, 36, 37]), ([35, 38, 32], [32, 35, 38]), ([32, 39], [32, 39])])
theorem plays21_tab : rtab .any (opsOf Try.f6 21) = plays21_T := by kernel_rfl
theorem GenJ.below {tape : Bool} {B o : Nat} {T : List (Int × Int)} {N : List Int} {vl : Value} {p : Nat} {w w' : World} (h : GenJ tape B o T N vl p w) (hb : Below w.heap.size w w') : GenJ tape B o T N vl p w' := (gen_j tape B o T N vl p).below h hb
theorem GenJ.kept1 {tape : Bool} {B o : Nat} {T : List (Int × Int)} {N : List Int} {vl : Value} {p : Nat} {w w' : World} {z : Nat} {cs : Array Value} {t : TypeId} (h : GenJ tape B o T N vl p w) (hz : w.heap[z]? = some (.cells cs t (0, 0))) (ht : t = 50 ∨ t = 144) (hk : Kept w w' (fun i => i = z)) : GenJ tape B o T N vl p w' := (gen_j tape B o T N vl p).kept h hk (fun i hi e => by
  subst e
  cases tape
  · rcases hi with rfl | hi
    · rcases ht with rfl | rfl
      · exact blk_ne h.blk hz (by decide) rfl
      · exact blk_ne h.blk hz (by decide) rfl
    · obtain ⟨cs', hc⟩ := own_typed h.row i hi
      rcases ht with rfl | rfl
      · exact blk_ne hc hz (by decide) rfl
      · exact blk_ne hc hz (by decide) rfl
  · rcases hi with rfl | hi
    · rcases ht with rfl | rfl
      · exact blk_ne h.blk hz (by decide) rfl
      · exact blk_ne h.blk hz (by decide) rfl
    · obtain ⟨cs', hc⟩ := own_typed h.row i hi
      rcases ht with rfl | rfl
      · exact blk_ne hc hz (by decide) rfl
      · exact blk_ne hc hz (by decide) rfl)

theorem decs_drop {w : World} {A : Option Addr} {c : Nat} {V : List (Int × Int)} (h : Decs w A V) (m : Nat) (hc : V.length ≤ c) (hm : m ≤ V.length) : Decs w (if c = m then A else A.map fun x => x.add (m * 2)) (V.drop m) := fun i hi => by
  rw [List.length_drop] at hi
  obtain ⟨ad, he, h1, h2⟩ := h (m + i) (by omega)
  have hg : (V.drop m).getD i (0, 0) = V.getD (m + i) (0, 0) := by simp [List.getD_eq_getElem?_getD, List.getElem?_drop]
  have hadd : ∀ j, (ad.add (m * 2)).add j = ad.add (m * 2 + j) := fun j => by
    unfold Addr.add
    rcases Nat.eq_zero_or_pos (m * 2) with h | h
    · rw [h]; simp
    · rcases Nat.eq_zero_or_pos j with h' | h'
      · subst h'; simp
      · rw [if_neg (by omega), if_neg (by omega), if_neg (by omega)]
        simp
        omega
  refine ⟨ad.add (m * 2), by rw [if_neg (by omega), he]; rfl, ?_, ?_⟩
  · rw [hadd, hg, show m * 2 + i * 2 = (m + i) * 2 by omega]; exact h1
  · rw [hadd, hg, show m * 2 + (i * 2 + 1) = (m + i) * 2 + 1 by omega]; exact h2
/-- What was seen is what was taken since. -/
theorem are_tail (w : World) (B B' : Nat) (A A' : Option Addr) (p c c' wt : Nat) (S V : List (Int × Int)) (h : w.ownsRow B 25 2 (.slice A S.length c) S.length (recs S)) (h' : w.ownsRow B' 57 2 (.slice A' p c') p (recs V)) (hS : S = V.drop wt) (hw : wt ≤ p) (hV : V.length = p) (hp : p ≤ 40) :
    Calls Try.prog 30 #[.slice A S.length c, .slice (if c' = wt then A' else A'.map fun x => x.add (wt * 2)) (p - wt) (c' - wt)] w fun e w' => e = .returned (.int .i64 0) ∧ ∃ m, w' = w.drewN m := by
  obtain ⟨h1, h2⟩ := decs_slice h rfl
  obtain ⟨h3, h4⟩ := decs_slice h' hV
  have hl : S.length = p - wt := by rw [hS, List.length_drop, hV]
  have hd := decs_drop h3 (c := c') wt (by omega) (by omega)
  rw [← hS] at hd
  rw [← hl]
  exact are_calls w A _ S.length c (c' - wt) S h1 hd rfl h2 (by omega) (by omega)
def plays24_T : Bool × List (List Nat × List Nat) := (true, [([], []), ([0], [0]), ([1], [1]), ([2], [2]), ([2], [2]), ([4, 2], [2, 4]), ([5, 2], [2, 5]), ([3, 6, 2], [2, 3, 6]), ([2, 7], [2, 7]), ([8, 2], [8]), ([9], [9]), ([9], [9]), ([11, 9], [9, 11]), ([9], [9]), ([12, 13, 9], [9, 12, 13]), ([10, 14, 9, 9], [9, 10, 14]), ([15, 9], [9, 15]), ([9, 16], [9, 16]), ([17, 15, 0, 1, 2, 3, 4, 5, 6, 7, 8, 9, 10, 11, 12, 13, 14, 15, 16, 17], [17])])
theorem plays24_tab : rtab .any (opsOf Try.f6 24) = plays24_T := by kernel_rfl
/-- What stands at the head of a round, and behind a watching. -/
structure Pl (tape wd : Bool) (B : Nat) (w wr : World) (s o zs zx : Nat) (T : List (Int × Int)) (N : List Int) (vl : Value) (p wt : Nat) (V S : List (Int × Int)) (vt vn : Value) (A1 : Option Addr) (na c1 : Nat) (A2 : Option Addr) (nb c2 : Nat) (vx : Value) : Prop where
  j : GenJ tape B o T N vl p wr
  n : Sn (seeOf wd zs) B (FOf o vl) wr s (kOf tape) (lOf tape) o vt p (recs V) zs vn S
  x : wr.heap[zx]? = some (.cells #[.slice A1 na c1, .slice A2 nb c2, .bool tape, .bool false, vx] 50 (0, 0))
  gx : B ≤ zx
  r : RefOk tape w wr T N p A1 na c1 A2 nb c2
  row : wr.ownsRow B 57 2 vx p (recs V)
  b : Below B w wr
  pn : p ≤ totOf tape T N
  v : V.length = p
  s1 : wd = true → S = V.drop wt ∧ wt ≤ p
  s0 : wd = false → S = [] ∧ wt = 0
theorem Pl.below {tape wd : Bool} {B : Nat} {w wr w' : World} {s o zs zx : Nat} {T : List (Int × Int)} {N : List Int} {vl : Value} {p wt : Nat} {V S : List (Int × Int)} {vt vn : Value} {A1 : Option Addr} {na c1 : Nat} {A2 : Option Addr} {nb c2 : Nat} {vx : Value}
    (h : Pl tape wd B w wr s o zs zx T N vl p wt V S vt vn A1 na c1 A2 nb c2 vx) (hB : B ≤ w.heap.size) (hb : Below wr.heap.size wr w') : Pl tape wd B w w' s o zs zx T N vl p wt V S vt vn A1 na c1 A2 nb c2 vx :=
  ⟨h.j.below hb, h.n.below hb, blk_below h.x hb, h.gx, h.r.still (Still50.of_below hb), pw_own_below h.row hb, h.b.trans (hb.mono (Nat.le_trans hB h.b.size)), h.pn, h.v, h.s1, h.s0⟩

/-- What stands behind a draw, while it is compared. -/
structure Pm (tape wd : Bool) (B : Nat) (w wr : World) (s o zs zx zy z : Nat) (T : List (Int × Int)) (N : List Int) (vl : Value) (p wt : Nat) (V S : List (Int × Int)) (vt vn : Value) (A1 : Option Addr) (na c1 : Nat) (A2 : Option Addr) (nb c2 : Nat) (vx : Value) (a b c d e : Value) (U : Array Value) : Prop where
  j : GenJ tape B o T N vl p wr
  n : Sn (seeOf wd zs) B (FOf o vl) wr s (kOf tape) (lOf tape) o vt p (recs V) zs vn S
  x : wr.heap[zx]? = some (.cells #[a, b, c, d, e] 50 (0, 0))
  y : wr.heap[zy]? = some (.cells #[.slice A1 na c1, .slice A2 nb c2, .bool tape, .bool false, vx] 50 (0, 0))
  u : wr.heap[z]? = some (.cells U 27 (0, 0))
  gx : B ≤ zx
  ne : zx ≠ zy
  r : RefOk tape w wr T N p A1 na c1 A2 nb c2
  row : wr.ownsRow B 57 2 vx p (recs V)
  b : Below B w wr
  pn : p ≤ totOf tape T N
  v : V.length = p
  s1 : wd = true → S = V.drop wt ∧ wt ≤ p
  s0 : wd = false → S = [] ∧ wt = 0
theorem Pm.below {tape wd : Bool} {B : Nat} {w wr w' : World} {s o zs zx zy z : Nat} {T : List (Int × Int)} {N : List Int} {vl : Value} {p wt : Nat} {V S : List (Int × Int)} {vt vn : Value} {A1 : Option Addr} {na c1 : Nat} {A2 : Option Addr} {nb c2 : Nat} {vx a b c d e : Value} {U : Array Value}
    (h : Pm tape wd B w wr s o zs zx zy z T N vl p wt V S vt vn A1 na c1 A2 nb c2 vx a b c d e U) (hB : B ≤ w.heap.size) (hb : Below wr.heap.size wr w') : Pm tape wd B w w' s o zs zx zy z T N vl p wt V S vt vn A1 na c1 A2 nb c2 vx a b c d e U :=
  ⟨h.j.below hb, h.n.below hb, blk_below h.x hb, blk_below h.y hb, blk_below h.u hb, h.gx, h.ne, h.r.still (Still50.of_below hb), pw_own_below h.row hb, h.b.trans (hb.mono (Nat.le_trans hB h.b.size)), h.pn, h.v, h.s1, h.s0⟩

set_option maxHeartbeats 8000000 in
set_option maxRecDepth 100000 in
theorem plays_law (A0 A1 A2 : Option Addr) (c0 c1 c2 : Nat) (xs : List Int) (l : List S57) (tape : Bool) (qs : List (Int × Int)) (frm : Int) (w : World) (h0 : ReadsInt w .u64 A0 xs.length xs) (hc0 : xs.length ≤ c0) (hp : ∀ x ∈ xs, 0 ≤ x ∧ x < 18446744073709551616) (h1 : Kd.C k57 w A1 l.length l) (hc1 : l.length ≤ c1) (h2 : Asks w A2 qs.length qs) :
    Calls Try.prog 6 #[.slice A0 xs.length c0, .slice A1 l.length c1, .bool tape, .slice A2 qs.length c2, .int .i64 frm] w fun e w' => e = .returned (.bool true) ∧ Below w.heap.size w w' := by
  have HSM := Aside0.mk (fun W (hb : Below w.heap.size w W) => some_calls W A1 c1 l (Kd.C_below h1 hb) hc1)
  obtain ⟨nN, hnN, hnN1, hnN2⟩ : ∃ n : Nat, (if 40 < xs.length then (40 : Int) else (xs.length : Int)) = (n : Int) ∧ n ≤ 40 ∧ n ≤ xs.length := by
    refine ⟨min 40 xs.length, ?_, by omega, by omega⟩
    split <;> omega
  have hnN' : (if (40 : Int) < (xs.length : Int) then (40 : Int) else (xs.length : Int)) = (nN : Int) := by
    rw [← hnN]
    split <;> split <;> omega
  obtain ⟨N, hN⟩ : ∃ N, xs.take nN = N := ⟨_, rfl⟩
  have hNl : N.length = nN := by rw [← hN, List.length_take]; omega
  have HNN := Aside0.mk (show ReadsInt w .u64 A0 nN N ∧ N.length = nN ∧ nN ≤ 40 ∧ nN ≤ c0 from ⟨by rw [← hN]; exact reads_take h0 nN hnN2, hNl, hnN1, by omega⟩)
  have HNP := Aside0.mk (show ∀ x ∈ N, 0 ≤ x ∧ x < 18446744073709551616 from fun x hx => hp x (by rw [← hN] at hx; exact List.mem_of_mem_take hx))
  have HQ := Aside0.mk h2
  have b0 : (0 : Int) ≤ (nN : Int) := by omega
  have b1 : (nN : Int) ≤ (c0 : Int) := by omega
  clear h0 hc0 h1 hp h2 hN hNl hc1 hnN1 hnN2
  go_enter Try.func6, Try.ntmps6
  go_upto_if 38 with (first
    | (go_at_call 15; (with_reducible refine (awake_calls w).mono ?_); rintro e w1 ⟨rfl, hb⟩; have HW1 := Aside0.mk hb; clear hb)
    | (go_at_call 25; (with_reducible refine (HSM.out w1 HW1.out).mono ?_); rintro e w2 ⟨At, nT, ct, T, rfl, ho, hl, h40, hmb, hb⟩; have HO2 := Aside0.mk ho; have HT := Aside0.mk (show T.length = nT ∧ nT ≤ 40 ∧ ∀ x ∈ T, MayBe x from ⟨hl, h40, hmb⟩); have HW2 := Aside0.mk (below_then HW1.out HW1.out.size hb); clear ho hl h40 hmb hb)
    | (go_at_call 19; (have hor := oracle_calls A0 c0 N w2 (by have h := HNN.out; rw [h.2.1]; exact h.1.below HW2.out) (by have h := HNN.out; omega)); rw [HNN.out.2.1] at hor; (with_reducible refine hor.mono ?_); rintro e w3 ⟨s1, o1, vl1, rfl, hor, hsr, hb⟩; have HC3 := Aside0.mk hor; have HS3 := Aside0.mk hsr; have HO3 := Aside0.mk (pw_own_below HO2.out hb); have HW3 := Aside0.mk (below_then HW2.out HW2.out.size hb); clear hor hsr hb))
  have HX3 := Aside0.mk (blk_new w3 (.cells #[.slice A0 nN c0, .slice none 0 0, .bool false, .bool false, .slice none 0 0] 50))
  have HB3 := Aside0.mk (below_alloc (Below.refl w3.heap.size w3) (.cells #[.slice A0 nN c0, .slice none 0 0, .bool false, .bool false, .slice none 0 0] 50))
  have HSZ3 := Aside0.mk HW3.out.size
  obtain ⟨zx, hzx⟩ : ∃ z, w3.heap.size = z := ⟨_, rfl⟩
  rw [hzx] at HX3 HSZ3 ⊢
  have HZX := Aside0.mk hzx
  clear hzx hnN'
  change Code.wp _ _ _ _ (w3.alloc (.cells #[.slice A0 nN c0, .slice none 0 0, .bool false, .bool false, .slice none 0 0] 50))
  generalize w3.alloc (.cells #[.slice A0 nN c0, .slice none 0 0, .bool false, .bool false, .slice none 0 0] 50) = w4 at HX3 HB3 ⊢
  have HW4 := Aside0.mk (below_then HW3.out HW3.out.size HB3.out)
  have HO4 := Aside0.mk (pw_own_below HO3.out HB3.out)
  go_cut [12] (fun v12 wx => ∃ (s o : Nat) (vl : Value) (A1 : Option Addr) (na c1 : Nat) (A2 : Option Addr) (nb c2 : Nat), v12 = .pointer (some ⟨s, 0, none⟩) ∧ GenJ tape w.heap.size o T N vl 0 wx ∧ Srce w.heap.size wx s (kOf tape) (lOf tape) o (.slice none 0 0) 0 [] .nilFunc ∧ wx.heap[zx]? = some (.cells #[.slice A1 na c1, .slice A2 nb c2, .bool tape, .bool false, .slice none 0 0] 50 (0, 0)) ∧ RefOk tape w wx T N 0 A1 na c1 A2 nb c2 ∧ Below w.heap.size w wx)
  case first =>
    cases tape
    · go_wp2
      go_meet
      exact ⟨s1, o1, vl1, A0, nN, c0, none, 0, 0, rfl, (HC3.out.below HB3.out).lower HW2.out.size, (HS3.out.below HB3.out).lower HW2.out.size, HX3.out, ⟨⟨rfl, rfl, rfl⟩, by rw [HNN.out.2.1]; rfl, by rw [HNN.out.2.1]; exact HNN.out.1, by rw [HNN.out.2.1]; exact HNN.out.2.2.2⟩, HW4.out⟩
    · have HX4 := HX3
      go_wp2_with (first
        | (go_at_call 23; (with_reducible refine (tape_calls _ nT _ T w4 HO4.out HT.out.1 (by have := HT.out.2.1; omega)).mono ?_); rintro e w5 ⟨s2, o2, vl2, rfl, hta, hsr, hb⟩; have HC5 := Aside0.mk hta; have HS5 := Aside0.mk hsr; have HB5 := Aside0.mk hb; have HO5 := Aside0.mk (pw_own_below HO4.out hb); have HX5 := Aside0.mk (blk_below HX3.out hb); clear hta hsr hb)
        | (go_at_call 26; (with_reducible refine (told_calls w5 _ nT _ T HO5.out HT.out.1 (by have := HT.out.2.1; omega)).mono ?_); rintro e w6 ⟨Ax, cx, rfl, hot, hb⟩; have HD6 := Aside0.mk (DecT.own hot HT.out.1); have HX6 := Aside0.mk (blk_below HX5.out hb); have HB6 := Aside0.mk hb; have r0 : w6.cell? ⟨zx, 0, none⟩ = some (.slice A0 nN c0) := (blk_cell HX6.out 0).trans rfl; have r1 : w6.cell? ⟨zx, 1, none⟩ = some (.slice none 0 0) := (blk_cell HX6.out 1).trans rfl; have r2 : w6.cell? ⟨zx, 2, none⟩ = some (.bool false) := (blk_cell HX6.out 2).trans rfl; have r3 : w6.cell? ⟨zx, 3, none⟩ = some (.bool false) := (blk_cell HX6.out 3).trans rfl; have r4 : w6.cell? ⟨zx, 4, none⟩ = some (.slice none 0 0) := (blk_cell HX6.out 4).trans rfl; have g0 := blk_frozen HX6.out 0; have g1 := blk_frozen HX6.out 1; have g2 := blk_frozen HX6.out 2; have g3 := blk_frozen HX6.out 3; have g4 := blk_frozen HX6.out 4; clear hot hb))
      have hk := kept_set5 w6 zx (.slice none 0 0) (.slice Ax nT cx) (.bool true) (.bool false) (.slice none 0 0)
      have hge := Nat.le_trans HW4.out.size HB5.out.size
      have HJ6 := Aside0.mk (show GenJ true w.heap.size o2 T N vl2 0 (set5 w6 zx (.slice none 0 0) (.slice Ax nT cx) (.bool true) (.bool false) (.slice none 0 0)) from GenJ.kept1 (show GenJ true w.heap.size o2 T N vl2 0 w6 from (HC5.out.below HB6.out).lower HW4.out.size) HX6.out (.inl rfl) hk)
      have HS6 := Aside0.mk (show Srce w.heap.size (set5 w6 zx (.slice none 0 0) (.slice Ax nT cx) (.bool true) (.bool false) (.slice none 0 0)) s2 63 64 o2 (.slice none 0 0) 0 [] .nilFunc from ((HS5.out.below HB6.out).lower HW4.out.size).kept hk (blk_ne (HS5.out.below HB6.out).blk HX6.out (by decide)) (fun k hk => by simp [Value.ownBlock] at hk))
      have HF6 := Aside0.mk (show (set5 w6 zx (.slice none 0 0) (.slice Ax nT cx) (.bool true) (.bool false) (.slice none 0 0)).heap[zx]? = some (.cells #[.slice none 0 0, .slice Ax nT cx, .bool true, .bool false, .slice none 0 0] 50 (0, 0)) from set5_50' HX6.out)
      have HD7 := Aside0.mk (show DecT (set5 w6 zx (.slice none 0 0) (.slice Ax nT cx) (.bool true) (.bool false) (.slice none 0 0)) Ax T from HD6.out.1.kept HX6.out hk)
      have HB7 := Aside0.mk (show Below w.heap.size w (set5 w6 zx (.slice none 0 0) (.slice Ax nT cx) (.bool true) (.bool false) (.slice none 0 0)) from set5_below (below_then (below_then HW4.out HW4.out.size HB5.out) hge HB6.out) HSZ3.out)
      clear hk hge
      go_meet
      exact ⟨s2, o2, vl2, none, 0, 0, Ax, nT, cx, rfl, HJ6.out, HS6.out, HF6.out, ⟨⟨rfl, rfl, rfl⟩, by rw [HT.out.1]; rfl, HD7.out, by rw [HT.out.1]; exact HD6.out.2⟩, HB7.out⟩
  case rest =>
    clear HC3 HS3 HX3 HB3 HO2 HO3 HO4 HW1 HW2 HW3 HW4
    obtain ⟨s, o, vl, A1', na, c1', A2', nb, c2', rfl, hj, hsr, hx, hrf, hbl⟩ := hcut
    have HPL := Aside0.mk (And.intro hj (And.intro hsr (And.intro hx (And.intro hrf hbl))))
    clear hj hsr hx hrf hbl
    go_upto_block 0 with (fail)
    have hlt : ∀ i, FOf o vl i → i < wc.heap.size := fun i hi => (gen_j tape w.heap.size o T N vl 0).lt HPL.out.1 hi
    have hr8 := own_empty wc w.heap.size 25 2 HPL.out.2.2.2.2.size
    have hb8 := below_alloc (below_alloc (Below.refl wc.heap.size wc) (.cells #[] 25)) (.cells #[.slice (some ⟨wc.heap.size, 0, none⟩) 0 0] 45)
    have hz8 := blk_new (wc.alloc (.cells #[] 25)) (.cells #[.slice (some ⟨wc.heap.size, 0, none⟩) 0 0] 45)
    rw [show (wc.alloc (.cells #[] 25)).heap.size = wc.heap.size + 1 by simp] at hz8
    have hp8 : Pl tape false w.heap.size w ((wc.alloc (.cells #[] 25)).alloc (.cells #[.slice (some ⟨wc.heap.size, 0, none⟩) 0 0] 45)) s o (wc.heap.size + 1) zx T N vl 0 0 [] [] (.slice none 0 0) (.slice (some ⟨wc.heap.size, 0, none⟩) 0 0) A1' na c1' A2' nb c2' (.slice none 0 0) :=
      ⟨HPL.out.1.below hb8, ⟨HPL.out.2.1.below hb8, (fun i _ h => by simp [Value.ownBlock] at h), ⟨Nat.le_trans HPL.out.2.2.2.2.size (Nat.le_succ _), hz8, hr8.alloc _⟩, (fun i hi h => by have := hlt i hi; simp [Value.ownBlock] at h; omega), (fun k _ h => by simp [Value.ownBlock] at h)⟩,
        blk_below HPL.out.2.2.1 hb8, HSZ3.out, HPL.out.2.2.2.1.still (Still50.of_below hb8), own_nil _ _ _ _, HPL.out.2.2.2.2.trans (hb8.mono HPL.out.2.2.2.2.size), Nat.zero_le _, rfl, (fun h => by cases h), (fun _ => ⟨rfl, rfl⟩)⟩
    have HP8 := Aside0.mk hp8
    obtain ⟨zs, hzs⟩ : ∃ z, wc.heap.size + 1 = z := ⟨_, rfl⟩
    have hrn : wc.heap.size = zs - 1 := by omega
    clear hlt hr8 hb8 hz8 hp8 HPL
    rw [hzs] at HP8 ⊢
    change Code.wp _ _ _ _ ((wc.alloc (.cells #[] 25)).alloc (.cells #[.slice (some ⟨wc.heap.size, 0, none⟩) 0 0] 45))
    generalize (wc.alloc (.cells #[] 25)).alloc (.cells #[.slice (some ⟨wc.heap.size, 0, none⟩) 0 0] 45) = w8 at HP8 ⊢
    generalize wc.heap.size = zr at HP8 ⊢
    clear hzs hrn
    have hT40 : T.length ≤ 40 := by rw [HT.out.1]; exact HT.out.2.1
    have hN40 : N.length ≤ 40 := by rw [HNN.out.2.1]; exact HNN.out.2.2.1
    have HTN := Aside0.mk (And.intro hT40 hN40)
    clear hT40 hN40
    go_cut [15] (fun v15 wx => ∃ (wd : Bool) (p wt : Nat) (V S : List (Int × Int)) (vt vn : Value) (A1 : Option Addr) (na c1 : Nat) (A2 : Option Addr) (nb c2 : Nat) (vx : Value), v15 = .int .i64 wt ∧ Pl tape wd w.heap.size w wx s o zs zx T N vl p wt V S vt vn A1 na c1 A2 nb c2 vx ∧ (wd = true ↔ 0 ≤ frm ∧ frm < ((min qs.length 40 : Nat) : Int)))
    case first =>
      go_wp2
      go_loopw [15, 16] (fun v15 v16 wr => ∃ (i : Nat) (wd : Bool) (p wt : Nat) (V S : List (Int × Int)) (vt vn : Value) (A1 : Option Addr) (na c1 : Nat) (A2 : Option Addr) (nb c2 : Nat) (vx : Value), v16 = .int .i64 i ∧ v15 = .int .i64 wt ∧ i ≤ 40 ∧ i ≤ qs.length ∧ Pl tape wd w.heap.size w wr s o zs zx T N vl p wt V S vt vn A1 na c1 A2 nb c2 vx ∧ (wd = true ↔ 0 ≤ frm ∧ frm < (i : Int))) (fun _ v _ => 40 - (intOf v).toNat)
      case atStart => exact ⟨0, false, 0, 0, [], [], _, _, _, _, _, _, _, _, _, rfl, rfl, by omega, by omega, HP8.out, ⟨fun h => (by cases h), fun h => (by omega)⟩⟩
      case round =>
        clear HP8
        obtain ⟨i, wd, p, wt, V, S, vt, vn, A1, na, c1, A2, nb, c2, vx, rfl, rfl, hi, hiq, hpl, hwd⟩ := hrel
        have HPL := Aside0.mk hpl
        have HWD := Aside0.mk hwd
        have HII := Aside0.mk (And.intro hi hiq)
        clear hpl hwd hiq
        by_cases ha : i < qs.length
        case neg =>
          have q1 : decide ((i : Int) < (qs.length : Int)) = false := decide_eq_false (by omega)
          go_wp2
          go_meet
          exact ⟨wd, p, wt, V, S, vt, vn, A1, na, c1, A2, nb, c2, vx, rfl, HPL.out, by have h := HWD.out; have h2 := HII.out; rw [h]; omega⟩
        case pos =>
          have q1 : decide ((i : Int) < (qs.length : Int)) = true := decide_eq_true (by omega)
          by_cases h40 : i < 40
          case neg =>
            have q2 : decide ((i : Int) < 40) = false := decide_eq_false (by omega)
            go_wp2
            go_meet
            exact ⟨wd, p, wt, V, S, vt, vn, A1, na, c1, A2, nb, c2, vx, rfl, HPL.out, by have h := HWD.out; have h2 := HII.out; rw [h]; omega⟩
          case pos =>
            have q2 : decide ((i : Int) < 40) = true := decide_eq_true (by omega)
            obtain ⟨b57, hb57⟩ : ∃ b, ((i : Int) == frm) = b := ⟨_, rfl⟩
            have hb57' : decide ((i : Int) = frm) = b57 := by rw [← hb57]; rfl
            have HB57 := Aside0.mk hb57
            go_upto_if 57 with (fail)
            clear hb57 hb57'
            go_cut [15] (fun v15 wx => ∃ (wd : Bool) (wt : Nat) (S : List (Int × Int)), v15 = .int .i64 wt ∧ Pl tape wd w.heap.size w wx s o zs zx T N vl p wt V S vt vn A1 na c1 A2 nb c2 vx ∧ (wd = true ↔ 0 ≤ frm ∧ frm ≤ (i : Int)))
            case first =>
              by_cases hif : (i : Int) = frm
              · obtain rfl : b57 = true := by rw [← HB57.out]; exact beq_iff_eq.2 hif
                have hwf : wd = false := by
                  cases hh : wd with
                  | false => rfl
                  | true => have h := HWD.out.1 hh; omega
                subst hwf
                obtain ⟨X4, cX, hvx⟩ := own_slice HPL.out.row
                have x4 : wr.cell? ⟨zx, 4, none⟩ = some (.slice X4 p cX) := ((blk_cell HPL.out.x 4).trans rfl).trans (congrArg some hvx)
                have HWC := Aside0.mk (watch_calls w.heap.size s (kOf tape) (lOf tape) o vt p (recs V) zs wr HPL.out.n.src)
                unfold seeV at HWC
                have hmk := hmf
                have HIF := Aside0.mk hif
                clear hif
                go_wp2_with (go_at_call 27; (with_reducible refine HWC.out.mono ?_); rintro e w9 ⟨rfl, hsr, hk, hb⟩; have H9 := Aside0.mk (And.intro hsr (And.intro hk hb)); clear hsr hk hb)
                go_meet
                subst hvx
                have hst : Still50 wr w9 := fun j cs t hj ht => blk_kept hj H9.out.2.1 (fun e => by
                  subst e
                  rw [HPL.out.n.src.blk] at hj
                  injection hj with hj
                  injection hj with _ hj _
                  subst hj
                  rcases ht with ht | ht <;> cases ht)
                have hs0 := (HPL.out.s0 rfl).1
                subst hs0
                have hsn := HPL.out.n
                have hzs := blk_ne hsn.seen.blk hsn.src.blk (by decide)
                refine ⟨true, p, [], rfl, ⟨HPL.out.j.kept1 hsn.src.blk (.inr rfl) H9.out.2.1, ⟨H9.out.1, hsn.off, ⟨hsn.seen.ge, blk_kept hsn.seen.blk H9.out.2.1 hzs, own_kept hsn.seen.row H9.out.2.1 (fun k hk e => by obtain ⟨cs, hc⟩ := own_typed hsn.seen.row k hk; exact blk_ne hc hsn.src.blk (by decide) e)⟩, hsn.noff, hsn.ap⟩, hst _ _ _ HPL.out.x (.inl rfl), HPL.out.gx, HPL.out.r.still hst, own_still HPL.out.row hst, HPL.out.b.trans H9.out.2.2, HPL.out.pn, HPL.out.v, (fun _ => ⟨by rw [← HPL.out.v, List.drop_length], Nat.le_refl _⟩), (fun h => by cases h)⟩, ?_⟩
                have h1 := HIF.out
                constructor
                · intro _
                  omega
                · intro _
                  rfl
              · obtain rfl : b57 = false := by rw [← HB57.out]; exact beq_eq_false_iff_ne.2 hif
                go_wp2
                go_meet
                exact ⟨wd, wt, S, rfl, HPL.out, by have h := HWD.out; rw [h]; omega⟩
            case rest =>
              clear HB57 HPL HWD
              obtain ⟨wd1, wt1, S1, rfl, hpl, hwd⟩ := hcut
              have HPL := Aside0.mk hpl
              have HWD := Aside0.mk hwd
              clear hpl hwd
              obtain ⟨ad, e1, a0, a1⟩ := (HQ.out.below HPL.out.b).2 i ha
              subst e1
              rw [add_field ad (i * 2) 1 (by decide)] at a1
              obtain ⟨kk, hkk⟩ : ∃ kk, (qs.getD i (0, 0)).1 = kk := ⟨_, rfl⟩
              obtain ⟨nn, hnn⟩ : ∃ nn, (qs.getD i (0, 0)).2 = nn := ⟨_, rfl⟩
              rw [hkk] at a0
              rw [hnn] at a1
              have hmm := clamp_fit nn
              obtain ⟨v, en, u0, u1, u2, u3, u4, p', V', hpd⟩ := plays_draw tape wd1 w.heap.size s o zs T N vl p V (fitK kk) (fitN nn) (clampN nn) HTN.out.1 HTN.out.2 HPL.out.pn HPL.out.v rfl (by omega) HT.out.2.2 HNP.out
              have hcl : (if fitN nn < 1 then (1 : Int) else fitN nn) = clampN nn := rfl
              obtain ⟨k1, hk1⟩ : ∃ k1, fitK kk = k1 := ⟨_, rfl⟩
              obtain ⟨n1, hn1⟩ : ∃ n1, fitN nn = n1 := ⟨_, rfl⟩
              obtain ⟨m1, hm1⟩ : ∃ m1, clampN nn = m1 := ⟨_, rfl⟩
              rw [hk1, hn1, hm1] at hpd
              rw [hn1, hm1] at hcl
              have HPD := Aside0.mk hpd
              have HF := Aside0.mk (And.intro hk1 hn1)
              have HCL := Aside0.mk hcl
              have HI := Aside0.mk (And.intro ha h40)
              have HVL := Aside0.mk (show S1.length ≤ 1000 by
                have h1 := HPL.out.v
                have h2 := HPL.out.pn
                have h3 : totOf tape T N ≤ 40 := by
                  cases tape
                  · exact HTN.out.2
                  · exact HTN.out.1
                cases hh : wd1 with
                | true => rw [(HPL.out.s1 hh).1, List.length_drop]; omega
                | false => rw [(HPL.out.s0 hh).1]; simp)
              obtain ⟨S2, hS2⟩ : ∃ S2, (if wd1 = true then S1 ++ V'.drop p else S1) = S2 := ⟨_, rfl⟩
              have HS2 := Aside0.mk hS2
              have HOWN := Aside0.mk (fun (W : World) (h : Pl tape wd1 w.heap.size w W s o zs zx T N vl p wt1 V S1 vt vn A1 na c1 A2 nb c2 vx) => HPD.out.own W vt vn S1 h.b.size HVL.out h.j h.n)
              rw [hS2] at HOWN
              clear hkk hnn hmm hpd hk1 hn1 hm1 hcl hS2
              go_upto_region 19 with (first
                | (go_at_call 20; (with_reducible refine (fit_calls kk nn _).mono ?_); rintro e w6 ⟨rfl, hb⟩; rw [HF.out.1, HF.out.2]; have HP6 := Aside0.mk (HPL.out.below (Nat.le_refl _) hb); clear hb)
                | (go_at_call 21; (with_reducible refine (HOWN.out w6 HP6.out).mono ?_); rintro e w7 ⟨rfl, vt', vn', hj7, hn7, hst, hb⟩; unfold uV; (have hba := below_alloc (Below.refl w7.heap.size w7) (.cells #[.int .i64 u0, .int .i64 u1, .int .i64 u2, .int .i64 u3, .int .u64 u4] 27)); have HJ8 := Aside0.mk (hj7.below hba); have HN8 := Aside0.mk (hn7.below hba); (have hst8 := hst.trans (Still50.of_below hba)); have HX8 := Aside0.mk (hst8 _ _ _ HP6.out.x (.inl rfl)); have HR8 := Aside0.mk (HP6.out.r.still hst8); have HW8 := Aside0.mk (own_still HP6.out.row hst8); have HU8 := Aside0.mk (blk_new w7 (.cells #[.int .i64 u0, .int .i64 u1, .int .i64 u2, .int .i64 u3, .int .u64 u4] 27)); have HB8 := Aside0.mk ((HP6.out.b.trans hb).alloc (Nat.le_trans HP6.out.b.size hb.size) (.cells #[.int .i64 u0, .int .i64 u1, .int .i64 u2, .int .i64 u3, .int .u64 u4] 27)); have p0 : (w7.alloc (.cells #[.int .i64 u0, .int .i64 u1, .int .i64 u2, .int .i64 u3, .int .u64 u4] 27)).cell? ⟨zx, 0, none⟩ = some (.slice A1 na c1) := (blk_cell HX8.out 0).trans rfl; have p1 : (w7.alloc (.cells #[.int .i64 u0, .int .i64 u1, .int .i64 u2, .int .i64 u3, .int .u64 u4] 27)).cell? ⟨zx, 1, none⟩ = some (.slice A2 nb c2) := (blk_cell HX8.out 1).trans rfl; have p2 : (w7.alloc (.cells #[.int .i64 u0, .int .i64 u1, .int .i64 u2, .int .i64 u3, .int .u64 u4] 27)).cell? ⟨zx, 2, none⟩ = some (.bool tape) := (blk_cell HX8.out 2).trans rfl; have p3 : (w7.alloc (.cells #[.int .i64 u0, .int .i64 u1, .int .i64 u2, .int .i64 u3, .int .u64 u4] 27)).cell? ⟨zx, 3, none⟩ = some (.bool false) := (blk_cell HX8.out 3).trans rfl; have p4 : (w7.alloc (.cells #[.int .i64 u0, .int .i64 u1, .int .i64 u2, .int .i64 u3, .int .u64 u4] 27)).cell? ⟨zx, 4, none⟩ = some vx := (blk_cell HX8.out 4).trans rfl; clear hj7 hn7 hst hb hba hst8)
                | (go_at_call 29; (with_reducible refine (HPD.out.ref w _ A1 na c1 A2 nb c2 vx HR8.out HB8.out HW8.out HB8.out.size).mono ?_); rintro e w9 ⟨B1, ma, d1, B2, mb, d2, vx', rfl, hr9, hw9, hb9⟩; obtain ⟨B4, d4, rfl⟩ := own_slice hw9; have HR9 := Aside0.mk hr9; have HW9 := Aside0.mk hw9; have HB9 := Aside0.mk hb9; clear hr9 hw9 hb9))
              have hbb := below_alloc (Below.refl w9.heap.size w9) (.cells #[.slice B1 ma d1, .slice B2 mb d2, .bool tape, .bool false, .slice B4 p' d4] 50)
              have hst9 := (Still50.of_below HB9.out).trans (Still50.of_below hbb)
              have hb78 := HB9.out
              have hmid : Pm tape wd1 w.heap.size w (w9.alloc (.cells #[.slice B1 ma d1, .slice B2 mb d2, .bool tape, .bool false, .slice B4 p' d4] 50)) s o zs zx w9.heap.size w7.heap.size T N vl p' wt1 V' S2 vt' vn' B1 ma d1 B2 mb d2 (.slice B4 p' d4) (.slice A1 na c1) (.slice A2 nb c2) (.bool tape) (.bool false) vx #[.int .i64 u0, .int .i64 u1, .int .i64 u2, .int .i64 u3, .int .u64 u4] :=
                ⟨(HJ8.out.below hb78).below hbb, (HN8.out.below hb78).below hbb, blk_below (blk_below HX8.out hb78) hbb, blk_new w9 _, blk_below (blk_below HU8.out hb78) hbb, HPL.out.gx, Nat.ne_of_lt (blk_lt (blk_below HX8.out hb78)), HR9.out.still (Still50.of_below hbb), pw_own_below HW9.out hbb, (HB8.out.trans (hb78.mono HB8.out.size)).trans (hbb.mono (Nat.le_trans HB8.out.size hb78.size)), HPD.out.pn, HPD.out.vl,
                  (fun h => by
                    have h1 := HPL.out.s1 h
                    have h2 := HS2.out
                    rw [if_pos h] at h2
                    refine ⟨?_, Nat.le_trans h1.2 HPD.out.pp⟩
                    rw [← h2, h1.1]
                    have h3 := List.take_append_drop p V'
                    rw [HPD.out.vv] at h3
                    conv => rhs; rw [← h3]
                    rw [List.drop_append_of_le_length (by rw [HPL.out.v]; exact h1.2)]),
                  (fun h => by
                    have h1 := HPL.out.s0 h
                    have h2 := HS2.out
                    rw [if_neg (by rw [h]; decide)] at h2
                    exact ⟨by rw [← h2]; exact h1.1, h1.2⟩)⟩
              have HM := Aside0.mk hmid
              obtain ⟨zy, hzy⟩ : ∃ z, w9.heap.size = z := ⟨_, rfl⟩
              obtain ⟨z, hz⟩ : ∃ z, w7.heap.size = z := ⟨_, rfl⟩
              rw [hzy, hz] at HM
              rw [hzy, hz]
              clear hbb hst9 hb78 hmid p0 p1 p2 p3 p4 HJ8 HN8 HX8 HU8 HB8 HR8 HW8 HR9 HW9 HB9 HOWN hzy hz
              change Code.wp _ _ _ _ (w9.alloc (.cells #[.slice B1 ma d1, .slice B2 mb d2, .bool tape, .bool false, .slice B4 p' d4] 50))
              generalize w9.alloc (.cells #[.slice B1 ma d1, .slice B2 mb d2, .bool tape, .bool false, .slice B4 p' d4] 50) = w10 at HM ⊢
              have hn := HM.out.n
              have hby := HM.out.y
              have y0 : w10.cell? ⟨zy, 0, none⟩ = some (.slice B1 ma d1) := (blk_cell hby 0).trans rfl
              have y1 : w10.cell? ⟨zy, 1, none⟩ = some (.slice B2 mb d2) := (blk_cell hby 1).trans rfl
              have y4 : w10.cell? ⟨zy, 4, none⟩ = some (.slice B4 p' d4) := (blk_cell hby 4).trans rfl
              have hp40 : p' ≤ 40 := by
                have h2 := HM.out.pn
                cases tape
                · exact Nat.le_trans h2 HTN.out.2
                · exact Nat.le_trans h2 HTN.out.1
              obtain ⟨lf, hlf⟩ : ∃ n : Int, (totOf tape T N : Int) - p' = n := ⟨_, rfl⟩
              have htot : totOf tape T N ≤ 40 := by
                cases tape
                · exact HTN.out.2
                · exact HTN.out.1
              have hleft := HM.out.r.left HM.out.pn
              rw [hlf] at hleft
              have e7 : IntKind.i64.wrap ((mb : Int) + (ma : Int)) = lf := by
                rw [hleft, IntKind.wrap_i64]
                have := HM.out.pn
                omega
              have q10 : (v != v) = false := bne_self_eq_false v
              have q11 : (en != en) = false := bne_self_eq_false en
              have q12 : (lf != lf) = false := bne_self_eq_false lf
              have HRX := Aside0.mk HM.out.row
              have HL2 := Aside0.mk (show V'.length = p' ∧ p' ≤ 1000 from ⟨HM.out.v, by omega⟩)
              have HLF := Aside0.mk (fun (W : World) (hb : Below w10.heap.size w10 W) => plays_left tape w.heap.size s o T N vl vt' p' p' (recs V') (seeOf wd1 zs) lf W (HM.out.j.below hb) (HM.out.n.below hb).src HM.out.pn HTN.out.1 hlf)
              have HTK := Aside0.mk (fun (W : World) (hb : Below w10.heap.size w10 W) => (taken_calls w.heap.size s (kOf tape) (lOf tape) o vt' p' V' (seeOf wd1 zs) W (HM.out.n.below hb).src (by omega)).mono fun e w' ⟨v, h1, h2, h3⟩ => show ∃ A c, e = Ending.returned (.slice A p' c) ∧ w'.ownsRow W.heap.size 25 2 (.slice A p' c) p' (recs V') ∧ Below W.heap.size W w' from by
                obtain ⟨A, c, rfl⟩ := own_slice h2
                exact ⟨A, c, h1, h2, h3⟩)
              have HUN := Aside0.mk HPD.out.un
              clear hn hby hp40 hlf htot hleft
              go_cut [115] (fun v115 w9 => v115 = .bool false ∧ Pm tape wd1 w.heap.size w w9 s o zs zx zy z T N vl p' wt1 V' S2 vt' vn' B1 ma d1 B2 mb d2 (.slice B4 p' d4) (.slice A1 na c1) (.slice A2 nb c2) (.bool tape) (.bool false) vx #[.int .i64 u0, .int .i64 u1, .int .i64 u2, .int .i64 u3, .int .u64 u4])
              case first =>
                have hB : Below w10.heap.size w10 w10.drew := (Below.refl _ _).drew
                refine wp_region_noPanic ?_
                refine start_ (n := 28) (S := (fun w' => w'.cell? ⟨zy, 0, none⟩ = some (.slice B1 ma d1) ∧ w'.cell? ⟨zy, 1, none⟩ = some (.slice B2 mb d2) ∧ w'.cell? ⟨zy, 4, none⟩ = some (.slice B4 p' d4))) (ds := []) #[false, false, false, false, false, false, false, false, false, false, false, false, false, false, false, false, false, false, false, false, false, false, false, false, false, false, false, false] (by kernel_rfl) rfl rfl (by (try dsimp only); exact ⟨pw_cell_below hB y0, pw_cell_below hB y1, pw_cell_below hB y4⟩) (fun hHeld => ?_)
                refine with_tab plays19_tab (fun HT_ => ?_)
                generalize w10.drew = w0d at hB hHeld ⊢
                refine take_ (i := 0) (N := some 88) (v := ?_) (a' := ?_) #[true, false, false, false, false, false, false, false, false, false, false, false, false, false, false, false, false, false, false, false, false, false, false, false, false, false, false, false] rfl rfl (take_of HT_.out (by kernel_rfl)) (fun _ _ _ h => h) (Or.inl ⟨by first | rfl | (go_simp; done), ?_⟩) hHeld ?_ ?_
                rotate_left
                · rintro w' ⟨s0, s1, s2⟩
                  go_simp
                  try (with_reducible rfl)
                rotate_left
                · simp only [Act.put, List.setIfInBounds_toArray, List.set_cons_zero, List.set_cons_succ]
                  rfl
                refine take_ (i := 1) (N := some 89) (v := ?_) (a' := ?_) #[true, true, false, false, false, false, false, false, false, false, false, false, false, false, false, false, false, false, false, false, false, false, false, false, false, false, false, false] rfl rfl (take_of HT_.out (by kernel_rfl)) (fun _ _ _ h => h) (Or.inl ⟨by first | rfl | (go_simp; done), ?_⟩) hHeld ?_ ?_
                rotate_left
                · rintro w' ⟨s0, s1, s2⟩
                  go_simp
                  try (with_reducible rfl)
                rotate_left
                · simp only [Act.put, List.setIfInBounds_toArray, List.set_cons_zero, List.set_cons_succ]
                  rfl
                refine take_ (i := 2) (N := some 90) (v := ?_) (a' := ?_) #[true, true, true, false, false, false, false, false, false, false, false, false, false, false, false, false, false, false, false, false, false, false, false, false, false, false, false, false] rfl rfl (take_of HT_.out (by kernel_rfl)) (fun _ _ _ h => h) (Or.inl ⟨by first | rfl | (go_simp; done), ?_⟩) hHeld ?_ ?_
                rotate_left
                · rintro w' ⟨s0, s1, s2⟩
                  go_simp
                  try (with_reducible rfl)
                rotate_left
                · simp only [Act.put, List.setIfInBounds_toArray, List.set_cons_zero, List.set_cons_succ]
                  rfl
                refine take_ (i := 3) (N := some 91) (v := ?_) (a' := ?_) #[true, true, true, true, false, false, false, false, false, false, false, false, false, false, false, false, false, false, false, false, false, false, false, false, false, false, false, false] rfl rfl (take_of HT_.out (by kernel_rfl)) (fun _ _ _ h => h) (Or.inl ⟨by first | rfl | (go_simp; done), ?_⟩) hHeld ?_ ?_
                rotate_left
                · rintro w' ⟨s0, s1, s2⟩
                  go_simp
                  try (with_reducible rfl)
                rotate_left
                · simp only [Act.put, List.setIfInBounds_toArray, List.set_cons_zero, List.set_cons_succ]
                  rfl
                refine take_ (i := 4) (N := some 92) (v := ?_) (a' := ?_) #[true, true, true, true, true, false, false, false, false, false, false, false, false, false, false, false, false, false, false, false, false, false, false, false, false, false, false, false] rfl rfl (take_of HT_.out (by kernel_rfl)) (fun _ _ _ h => h) (Or.inl ⟨by first | rfl | (go_simp; done), ?_⟩) hHeld ?_ ?_
                rotate_left
                · rintro w' ⟨s0, s1, s2⟩
                  go_simp
                  try (with_reducible rfl)
                rotate_left
                · simp only [Act.put, List.setIfInBounds_toArray, List.set_cons_zero, List.set_cons_succ]
                  rfl
                refine take_ (i := 5) (N := some 93) (v := ?_) (a' := ?_) #[true, true, true, true, true, true, false, false, false, false, false, false, false, false, false, false, false, false, false, false, false, false, false, false, false, false, false, false] rfl rfl (take_of HT_.out (by kernel_rfl)) (fun _ _ _ h => h) (Or.inl ⟨by first | rfl | (go_simp; done), ?_⟩) hHeld ?_ ?_
                rotate_left
                · rintro w' ⟨s0, s1, s2⟩
                  go_simp
                  try (with_reducible rfl)
                rotate_left
                · simp only [Act.put, List.setIfInBounds_toArray, List.set_cons_zero, List.set_cons_succ]
                  rfl
                refine take_ (i := 6) (N := some 94) (v := ?_) (a' := ?_) #[true, true, true, true, true, true, true, false, false, false, false, false, false, false, false, false, false, false, false, false, false, false, false, false, false, false, false, false] rfl rfl (take_of HT_.out (by kernel_rfl)) (fun _ _ _ h => h) (Or.inl ⟨by first | rfl | (go_simp; done), ?_⟩) hHeld ?_ ?_
                rotate_left
                · rintro w' ⟨s0, s1, s2⟩
                  go_simp
                  try (with_reducible rfl)
                rotate_left
                · simp only [Act.put, List.setIfInBounds_toArray, List.set_cons_zero, List.set_cons_succ]
                  rfl
                refine take_ (i := 7) (N := some 95) (v := ?_) (a' := ?_) #[true, true, true, true, true, true, true, true, false, false, false, false, false, false, false, false, false, false, false, false, false, false, false, false, false, false, false, false] rfl rfl (take_of HT_.out (by kernel_rfl)) (fun _ _ _ h => h) (Or.inl ⟨by first | rfl | (go_simp; done), ?_⟩) hHeld ?_ ?_
                rotate_left
                · rintro w' ⟨s0, s1, s2⟩
                  go_simp
                  try (with_reducible rfl)
                rotate_left
                · simp only [Act.put, List.setIfInBounds_toArray, List.set_cons_zero, List.set_cons_succ]
                  rfl
                refine take_ (i := 8) (N := some 96) (v := ?_) (a' := ?_) #[true, true, true, true, true, true, true, true, true, false, false, false, false, false, false, false, false, false, false, false, false, false, false, false, false, false, false, false] rfl rfl (take_of HT_.out (by kernel_rfl)) (fun _ _ _ h => h) (Or.inl ⟨by first | rfl | (go_simp; done), ?_⟩) hHeld ?_ ?_
                rotate_left
                · rintro w' ⟨s0, s1, s2⟩
                  go_simp
                  try (with_reducible rfl)
                rotate_left
                · simp only [Act.put, List.setIfInBounds_toArray, List.set_cons_zero, List.set_cons_succ]
                  rfl
                refine take_ (i := 9) (N := some 97) (v := ?_) (a' := ?_) #[true, true, true, true, true, true, true, true, true, true, false, false, false, false, false, false, false, false, false, false, false, false, false, false, false, false, false, false] rfl rfl (take_of HT_.out (by kernel_rfl)) (fun _ _ _ h => h) (Or.inl ⟨by first | rfl | (go_simp; done), ?_⟩) hHeld ?_ ?_
                rotate_left
                · rintro w' ⟨s0, s1, s2⟩
                  go_simp
                  try (with_reducible rfl)
                rotate_left
                · simp only [Act.put, List.setIfInBounds_toArray, List.set_cons_zero, List.set_cons_succ]
                  rfl
                refine take_ (i := 11) (N := some 99) (v := ?_) (a' := ?_) #[true, true, true, true, true, true, true, true, true, true, false, true, false, false, false, false, false, false, false, false, false, false, false, false, false, false, false, false] rfl rfl (take_of HT_.out (by kernel_rfl)) (fun _ _ _ h => h) (Or.inl ⟨by first | rfl | (go_simp; done), ?_⟩) hHeld ?_ ?_
                rotate_left
                · rintro w' ⟨s0, s1, s2⟩
                  go_simp
                  try (with_reducible rfl)
                rotate_left
                · simp only [Act.put, List.setIfInBounds_toArray, List.set_cons_zero, List.set_cons_succ]
                  rfl
                refine take_ (i := 12) (N := some 100) (v := ?_) (a' := ?_) #[true, true, true, true, true, true, true, true, true, true, false, true, true, false, false, false, false, false, false, false, false, false, false, false, false, false, false, false] rfl rfl (take_of HT_.out (by kernel_rfl)) (fun _ _ _ h => h) (Or.inl ⟨by first | rfl | (go_simp; done), ?_⟩) hHeld ?_ ?_
                rotate_left
                · rintro w' ⟨s0, s1, s2⟩
                  go_simp
                  try (with_reducible rfl)
                rotate_left
                · simp only [Act.put, List.setIfInBounds_toArray, List.set_cons_zero, List.set_cons_succ]
                  rfl
                refine one_ (i := 10) (N := some 98) #[true, true, true, true, true, true, true, true, true, true, true, true, true, false, false, false, false, false, false, false, false, false, false, false, false, false, false, false] rfl rfl (one_of HT_.out (by kernel_rfl)) (by decide) (fun K hK => ?_)
                go_simp
                (with_reducible refine (HTK.out _ hB).mono ?_)
                rintro e wb ⟨A2t, c2t, rfl, ho, hb⟩
                have HT2 := Aside0.mk ho
                have hB2 := below_then hB hB.size hb
                clear hB
                have hB := hB2
                clear hB2
                clear ho hb
                refine hK.out _ _ (by (try dsimp only); exact ⟨pw_cell_below hB y0, pw_cell_below hB y1, pw_cell_below hB y4⟩) (fun hHeld2 => ?_)
                clear hK K hHeld
                have hHeld := hHeld2
                clear hHeld2
                try simp only [Act.put, List.setIfInBounds_toArray, List.set_cons_zero, List.set_cons_succ]
                refine one_ (i := 13) (N := some 101) #[true, true, true, true, true, true, true, true, true, true, true, true, true, true, false, false, false, false, false, false, false, false, false, false, false, false, false, false] rfl rfl (one_of HT_.out (by kernel_rfl)) (by decide) (fun K hK => ?_)
                go_simp
                (with_reducible refine (are_own1 HT2.out (pw_own_below HRX.out hB) HL2.out.1 HL2.out.2).mono ?_)
                rintro e w' ⟨rfl, q2, rfl⟩
                have hB2 := pw_below_drewN hB q2
                clear hB
                have hB := hB2
                clear hB2
                generalize wb.drewN q2 = wd at hB ⊢
                refine hK.out _ _ (by (try dsimp only); exact ⟨pw_cell_below hB y0, pw_cell_below hB y1, pw_cell_below hB y4⟩) (fun hHeld2 => ?_)
                clear hK K hHeld
                have hHeld := hHeld2
                clear hHeld2
                try simp only [Act.put, List.setIfInBounds_toArray, List.set_cons_zero, List.set_cons_succ]
                refine take_ (i := 14) (N := some 102) (v := ?_) (a' := ?_) #[true, true, true, true, true, true, true, true, true, true, true, true, true, true, true, false, false, false, false, false, false, false, false, false, false, false, false, false] rfl rfl (take_of HT_.out (by kernel_rfl)) (fun _ _ _ h => h) (Or.inl ⟨by first | rfl | (go_simp; done), ?_⟩) hHeld ?_ ?_
                rotate_left
                · rintro w' ⟨s0, s1, s2⟩
                  go_simp
                  try (with_reducible rfl)
                rotate_left
                · simp only [Act.put, List.setIfInBounds_toArray, List.set_cons_zero, List.set_cons_succ]
                  rfl
                refine take_ (i := 15) (N := some 103) (v := ?_) (a' := ?_) #[true, true, true, true, true, true, true, true, true, true, true, true, true, true, true, true, false, false, false, false, false, false, false, false, false, false, false, false] rfl rfl (take_of HT_.out (by kernel_rfl)) (fun _ _ _ h => h) (Or.inl ⟨by first | rfl | (go_simp; done), ?_⟩) hHeld ?_ ?_
                rotate_left
                · rintro w' ⟨s0, s1, s2⟩
                  go_simp
                  try (with_reducible rfl)
                rotate_left
                · simp only [Act.put, List.setIfInBounds_toArray, List.set_cons_zero, List.set_cons_succ]
                  rfl
                refine take_ (i := 16) (N := some 104) (v := ?_) (a' := ?_) #[true, true, true, true, true, true, true, true, true, true, true, true, true, true, true, true, true, false, false, false, false, false, false, false, false, false, false, false] rfl rfl (take_of HT_.out (by kernel_rfl)) (fun _ _ _ h => h) (Or.inl ⟨by first | rfl | (go_simp; done), ?_⟩) hHeld ?_ ?_
                rotate_left
                · rintro w' ⟨s0, s1, s2⟩
                  go_simp
                  try (with_reducible rfl)
                rotate_left
                · simp only [Act.put, List.setIfInBounds_toArray, List.set_cons_zero, List.set_cons_succ]
                  rfl
                refine take_ (i := 17) (N := some 105) (v := ?_) (a' := ?_) #[true, true, true, true, true, true, true, true, true, true, true, true, true, true, true, true, true, true, false, false, false, false, false, false, false, false, false, false] rfl rfl (take_of HT_.out (by kernel_rfl)) (fun _ _ _ h => h) (Or.inl ⟨by first | rfl | (go_simp; done), ?_⟩) hHeld ?_ ?_
                rotate_left
                · rintro w' ⟨s0, s1, s2⟩
                  go_simp
                  try (with_reducible rfl)
                rotate_left
                · simp only [Act.put, List.setIfInBounds_toArray, List.set_cons_zero, List.set_cons_succ]
                  rfl
                refine take_ (i := 19) (N := some 107) (v := ?_) (a' := ?_) #[true, true, true, true, true, true, true, true, true, true, true, true, true, true, true, true, true, true, false, true, false, false, false, false, false, false, false, false] rfl rfl (take_of HT_.out (by kernel_rfl)) (fun _ _ _ h => h) (Or.inl ⟨by first | rfl | (go_simp; done), ?_⟩) hHeld ?_ ?_
                rotate_left
                · rintro w' ⟨s0, s1, s2⟩
                  go_simp
                  try (with_reducible rfl)
                rotate_left
                · simp only [Act.put, List.setIfInBounds_toArray, List.set_cons_zero, List.set_cons_succ]
                  rfl
                refine take_ (i := 20) (N := some 108) (v := ?_) (a' := ?_) #[true, true, true, true, true, true, true, true, true, true, true, true, true, true, true, true, true, true, false, true, true, false, false, false, false, false, false, false] rfl rfl (take_of HT_.out (by kernel_rfl)) (fun _ _ _ h => h) (Or.inl ⟨by first | rfl | (go_simp; done), ?_⟩) hHeld ?_ ?_
                rotate_left
                · rintro w' ⟨s0, s1, s2⟩
                  go_simp
                  try (with_reducible rfl)
                rotate_left
                · simp only [Act.put, List.setIfInBounds_toArray, List.set_cons_zero, List.set_cons_succ]
                  rfl
                refine take_ (i := 21) (N := some 109) (v := ?_) (a' := ?_) #[true, true, true, true, true, true, true, true, true, true, true, true, true, true, true, true, true, true, false, true, true, true, false, false, false, false, false, false] rfl rfl (take_of HT_.out (by kernel_rfl)) (fun _ _ _ h => h) (Or.inl ⟨by first | rfl | (go_simp; done), ?_⟩) hHeld ?_ ?_
                rotate_left
                · rintro w' ⟨s0, s1, s2⟩
                  go_simp
                  try (with_reducible rfl)
                rotate_left
                · simp only [Act.put, List.setIfInBounds_toArray, List.set_cons_zero, List.set_cons_succ]
                  rfl
                refine take_ (i := 22) (N := some 110) (v := ?_) (a' := ?_) #[true, true, true, true, true, true, true, true, true, true, true, true, true, true, true, true, true, true, false, true, true, true, true, false, false, false, false, false] rfl rfl (take_of HT_.out (by kernel_rfl)) (fun _ _ _ h => h) (Or.inl ⟨by first | rfl | (go_simp; done), ?_⟩) hHeld ?_ ?_
                rotate_left
                · rintro w' ⟨s0, s1, s2⟩
                  go_simp
                  try (with_reducible rfl)
                rotate_left
                · simp only [Act.put, List.setIfInBounds_toArray, List.set_cons_zero, List.set_cons_succ]
                  rfl
                refine take_ (i := 23) (N := some 111) (v := ?_) (a' := ?_) #[true, true, true, true, true, true, true, true, true, true, true, true, true, true, true, true, true, true, false, true, true, true, true, true, false, false, false, false] rfl rfl (take_of HT_.out (by kernel_rfl)) (fun _ _ _ h => h) (Or.inl ⟨by first | rfl | (go_simp; done), ?_⟩) hHeld ?_ ?_
                rotate_left
                · rintro w' ⟨s0, s1, s2⟩
                  go_simp
                  try (with_reducible rfl)
                rotate_left
                · simp only [Act.put, List.setIfInBounds_toArray, List.set_cons_zero, List.set_cons_succ]
                  rfl
                refine take_ (i := 24) (N := some 112) (v := ?_) (a' := ?_) #[true, true, true, true, true, true, true, true, true, true, true, true, true, true, true, true, true, true, false, true, true, true, true, true, true, false, false, false] rfl rfl (take_of HT_.out (by kernel_rfl)) (fun _ _ _ h => h) (Or.inl ⟨by first | rfl | (go_simp; done), ?_⟩) hHeld ?_ ?_
                rotate_left
                · rintro w' ⟨s0, s1, s2⟩
                  go_simp
                  try (with_reducible rfl)
                rotate_left
                · simp only [Act.put, List.setIfInBounds_toArray, List.set_cons_zero, List.set_cons_succ]
                  rfl
                refine take_ (i := 25) (N := some 113) (v := ?_) (a' := ?_) #[true, true, true, true, true, true, true, true, true, true, true, true, true, true, true, true, true, true, false, true, true, true, true, true, true, true, false, false] rfl rfl (take_of HT_.out (by kernel_rfl)) (fun _ _ _ h => h) (Or.inl ⟨by first | rfl | (go_simp; done), ?_⟩) hHeld ?_ ?_
                rotate_left
                · rintro w' ⟨s0, s1, s2⟩
                  go_simp
                  try (with_reducible rfl)
                rotate_left
                · simp only [Act.put, List.setIfInBounds_toArray, List.set_cons_zero, List.set_cons_succ]
                  rfl
                refine one_ (i := 18) (N := some 106) #[true, true, true, true, true, true, true, true, true, true, true, true, true, true, true, true, true, true, true, true, true, true, true, true, true, true, false, false] rfl rfl (one_of HT_.out (by kernel_rfl)) (by decide) (fun K hK => ?_)
                go_simp
                (with_reducible refine (HLF.out _ hB).mono ?_)
                rintro e w' ⟨rfl, q, rfl⟩
                have hB2 := pw_below_drewN hB q
                clear hB
                have hB := hB2
                clear hB2
                refine hK.out _ _ (by (try dsimp only); exact ⟨pw_cell_below hB y0, pw_cell_below hB y1, pw_cell_below hB y4⟩) (fun hHeld2 => ?_)
                clear hK K hHeld
                have hHeld := hHeld2
                clear hHeld2
                try simp only [Act.put, List.setIfInBounds_toArray, List.set_cons_zero, List.set_cons_succ]
                refine take_ (i := 26) (N := some 114) (v := ?_) (a' := ?_) #[true, true, true, true, true, true, true, true, true, true, true, true, true, true, true, true, true, true, true, true, true, true, true, true, true, true, true, false] rfl rfl (take_of HT_.out (by kernel_rfl)) (fun _ _ _ h => h) (Or.inl ⟨by first | rfl | (go_simp; done), ?_⟩) hHeld ?_ ?_
                rotate_left
                · rintro w' ⟨s0, s1, s2⟩
                  go_simp
                  try (with_reducible rfl)
                rotate_left
                · simp only [Act.put, List.setIfInBounds_toArray, List.set_cons_zero, List.set_cons_succ]
                  rfl
                refine take_ (i := 27) (N := some 115) (v := ?_) (a' := ?_) #[true, true, true, true, true, true, true, true, true, true, true, true, true, true, true, true, true, true, true, true, true, true, true, true, true, true, true, true] rfl rfl (take_of HT_.out (by kernel_rfl)) (fun _ _ _ h => h) (Or.inl ⟨by first | rfl | (go_simp; done), ?_⟩) hHeld ?_ ?_
                rotate_left
                · rintro w' ⟨s0, s1, s2⟩
                  go_simp
                  try (with_reducible rfl)
                rotate_left
                · simp only [Act.put, List.setIfInBounds_toArray, List.set_cons_zero, List.set_cons_succ]
                  rfl
                refine done_ (done_of HT_.out (by kernel_rfl)) ?_
                refine NoPanic.normal ?_
                go_wp2
                go_meet
                exact ⟨rfl, HM.out.below (Nat.le_refl _) hB⟩
              case rest =>
                clear HM HLF HTK HRX y0 y1 y4 e7
                obtain ⟨rfl, hm⟩ := hcut
                have HM := Aside0.mk hm
                clear hm
                go_upto_region 21 with (fail)
                have z0 : wc.cell? ⟨z, 0, none⟩ = some (.int .i64 u0) := (blk_cell HM.out.u 0).trans rfl
                have z1 : wc.cell? ⟨z, 1, none⟩ = some (.int .i64 u1) := (blk_cell HM.out.u 1).trans rfl
                have z2 : wc.cell? ⟨z, 2, none⟩ = some (.int .i64 u2) := (blk_cell HM.out.u 2).trans rfl
                have z3 : wc.cell? ⟨z, 3, none⟩ = some (.int .i64 u3) := (blk_cell HM.out.u 3).trans rfl
                have z4 : wc.cell? ⟨z, 4, none⟩ = some (.int .u64 u4) := (blk_cell HM.out.u 4).trans rfl
                have y1 : wc.cell? ⟨zy, 1, none⟩ = some (.slice B2 mb d2) := (blk_cell HM.out.y 1).trans rfl
                have y4 : wc.cell? ⟨zy, 4, none⟩ = some (.slice B4 p' d4) := (blk_cell HM.out.y 4).trans rfl
                go_cut [156] (fun v156 w9 => v156 = .bool false ∧ Pm tape wd1 w.heap.size w w9 s o zs zx zy z T N vl p' wt1 V' S2 vt' vn' B1 ma d1 B2 mb d2 (.slice B4 p' d4) (.slice A1 na c1) (.slice A2 nb c2) (.bool tape) (.bool false) vx #[.int .i64 u0, .int .i64 u1, .int .i64 u2, .int .i64 u3, .int .u64 u4])
                case first =>
                  have hB : Below wc.heap.size wc wc.drew := (Below.refl _ _).drew
                  rcases HUN.out with ⟨rfl, rfl, rfl, rfl, ht, hlt, hg⟩ | ⟨hen, rfl, rfl, rfl, rfl, rfl⟩
                  · have hr := HM.out.r
                    have hdn : Decs wc B2 (T.drop p') ∧ mb = T.length - p' := by
                      subst ht
                      exact ⟨hr.2.2.1.1, hr.2.1⟩
                    have hdd := hdn.1
                    rw [drop_cons T p' _ hlt hg] at hdd
                    obtain ⟨ad2, rfl, h0, h1⟩ := decs_head hdd
                    have hmb : 0 < mb := by rw [hdn.2]; omega
                    have hmb2 : (0 : Int) < (mb : Int) := by omega
                    have hcl := HCL.out
                    have q13 : ((p' : Int) != (p' : Int)) = false := bne_self_eq_false _
                    have q14 : (u1 != u1) = false := bne_self_eq_false _
                    have q15 : (u2 != u2) = false := bne_self_eq_false _
                    clear hr hdn hdd hlt hg ht
                    refine wp_region_noPanic ?_
                    refine start_ (n := 41) (S := (fun w' => w'.cell? ⟨z, 0, none⟩ = some (.int .i64 (p' : Int)) ∧ w'.cell? ⟨z, 1, none⟩ = some (.int .i64 u1) ∧ w'.cell? ⟨z, 2, none⟩ = some (.int .i64 u2) ∧ w'.cell? ⟨z, 3, none⟩ = some (.int .i64 u3) ∧ w'.cell? ⟨z, 4, none⟩ = some (.int .u64 u4) ∧ w'.cell? ⟨zy, 1, none⟩ = some (.slice (some ad2) mb d2) ∧ w'.cell? ⟨zy, 4, none⟩ = some (.slice B4 p' d4) ∧ w'.cell? ad2 = some (.int .i64 u3) ∧ w'.cell? ⟨ad2.block, ad2.off + 1, none⟩ = some (.int .u64 u4))) (ds := []) #[false, false, false, false, false, false, false, false, false, false, false, false, false, false, false, false, false, false, false, false, false, false, false, false, false, false, false, false, false, false, false, false, false, false, false, false, false, false, false, false, false] (by kernel_rfl) rfl rfl (by (try dsimp only); exact ⟨pw_cell_below hB z0, pw_cell_below hB z1, pw_cell_below hB z2, pw_cell_below hB z3, pw_cell_below hB z4, pw_cell_below hB y1, pw_cell_below hB y4, pw_cell_below hB h0, pw_cell_below hB h1⟩) (fun hHeld => ?_)
                    refine with_tab plays21_tab (fun HT_ => ?_)
                    generalize wc.drew = w0d at hB hHeld ⊢
                    refine take_ (i := 0) (N := some 116) (v := ?_) (a' := ?_) #[true, false, false, false, false, false, false, false, false, false, false, false, false, false, false, false, false, false, false, false, false, false, false, false, false, false, false, false, false, false, false, false, false, false, false, false, false, false, false, false, false] rfl rfl (take_of HT_.out (by kernel_rfl)) (fun _ _ _ h => h) (Or.inl ⟨by first | rfl | (go_simp; done), ?_⟩) hHeld ?_ ?_
                    rotate_left
                    · rintro w' ⟨s0, s1, s2, s3, s4, s5, s6, s7, s8⟩
                      go_simp
                      try (with_reducible rfl)
                    rotate_left
                    · simp only [Act.put, List.setIfInBounds_toArray, List.set_cons_zero, List.set_cons_succ]
                      rfl
                    refine take_ (i := 1) (N := some 117) (v := ?_) (a' := ?_) #[true, true, false, false, false, false, false, false, false, false, false, false, false, false, false, false, false, false, false, false, false, false, false, false, false, false, false, false, false, false, false, false, false, false, false, false, false, false, false, false, false] rfl rfl (take_of HT_.out (by kernel_rfl)) (fun _ _ _ h => h) (Or.inl ⟨by first | rfl | (go_simp; done), ?_⟩) hHeld ?_ ?_
                    rotate_left
                    · rintro w' ⟨s0, s1, s2, s3, s4, s5, s6, s7, s8⟩
                      go_simp
                      try (with_reducible rfl)
                    rotate_left
                    · simp only [Act.put, List.setIfInBounds_toArray, List.set_cons_zero, List.set_cons_succ]
                      rfl
                    refine take_ (i := 2) (N := some 118) (v := ?_) (a' := ?_) #[true, true, true, false, false, false, false, false, false, false, false, false, false, false, false, false, false, false, false, false, false, false, false, false, false, false, false, false, false, false, false, false, false, false, false, false, false, false, false, false, false] rfl rfl (take_of HT_.out (by kernel_rfl)) (fun _ _ _ h => h) (Or.inl ⟨by first | rfl | (go_simp; done), ?_⟩) hHeld ?_ ?_
                    rotate_left
                    · rintro w' ⟨s0, s1, s2, s3, s4, s5, s6, s7, s8⟩
                      go_simp
                      try (with_reducible rfl)
                    rotate_left
                    · simp only [Act.put, List.setIfInBounds_toArray, List.set_cons_zero, List.set_cons_succ]
                      rfl
                    refine take_ (i := 3) (N := some 119) (v := ?_) (a' := ?_) #[true, true, true, true, false, false, false, false, false, false, false, false, false, false, false, false, false, false, false, false, false, false, false, false, false, false, false, false, false, false, false, false, false, false, false, false, false, false, false, false, false] rfl rfl (take_of HT_.out (by kernel_rfl)) (fun _ _ _ h => h) (Or.inl ⟨by first | rfl | (go_simp; done), ?_⟩) hHeld ?_ ?_
                    rotate_left
                    · rintro w' ⟨s0, s1, s2, s3, s4, s5, s6, s7, s8⟩
                      go_simp
                      try (with_reducible rfl)
                    rotate_left
                    · simp only [Act.put, List.setIfInBounds_toArray, List.set_cons_zero, List.set_cons_succ]
                      rfl
                    refine take_ (i := 4) (N := some 120) (v := ?_) (a' := ?_) #[true, true, true, true, true, false, false, false, false, false, false, false, false, false, false, false, false, false, false, false, false, false, false, false, false, false, false, false, false, false, false, false, false, false, false, false, false, false, false, false, false] rfl rfl (take_of HT_.out (by kernel_rfl)) (fun _ _ _ h => h) (Or.inl ⟨by first | rfl | (go_simp; done), ?_⟩) hHeld ?_ ?_
                    rotate_left
                    · rintro w' ⟨s0, s1, s2, s3, s4, s5, s6, s7, s8⟩
                      go_simp
                      try (with_reducible rfl)
                    rotate_left
                    · simp only [Act.put, List.setIfInBounds_toArray, List.set_cons_zero, List.set_cons_succ]
                      rfl
                    refine take_ (i := 5) (N := some 121) (v := ?_) (a' := ?_) #[true, true, true, true, true, true, false, false, false, false, false, false, false, false, false, false, false, false, false, false, false, false, false, false, false, false, false, false, false, false, false, false, false, false, false, false, false, false, false, false, false] rfl rfl (take_of HT_.out (by kernel_rfl)) (fun _ _ _ h => h) (Or.inl ⟨by first | rfl | (go_simp; done), ?_⟩) hHeld ?_ ?_
                    rotate_left
                    · rintro w' ⟨s0, s1, s2, s3, s4, s5, s6, s7, s8⟩
                      go_simp
                      try (with_reducible rfl)
                    rotate_left
                    · simp only [Act.put, List.setIfInBounds_toArray, List.set_cons_zero, List.set_cons_succ]
                      rfl
                    refine take_ (i := 6) (N := some 122) (v := ?_) (a' := ?_) #[true, true, true, true, true, true, true, false, false, false, false, false, false, false, false, false, false, false, false, false, false, false, false, false, false, false, false, false, false, false, false, false, false, false, false, false, false, false, false, false, false] rfl rfl (take_of HT_.out (by kernel_rfl)) (fun _ _ _ h => h) (Or.inl ⟨by first | rfl | (go_simp; done), ?_⟩) hHeld ?_ ?_
                    rotate_left
                    · rintro w' ⟨s0, s1, s2, s3, s4, s5, s6, s7, s8⟩
                      go_simp
                      try (with_reducible rfl)
                    rotate_left
                    · simp only [Act.put, List.setIfInBounds_toArray, List.set_cons_zero, List.set_cons_succ]
                      rfl
                    refine take_ (i := 7) (N := some 123) (v := ?_) (a' := ?_) #[true, true, true, true, true, true, true, true, false, false, false, false, false, false, false, false, false, false, false, false, false, false, false, false, false, false, false, false, false, false, false, false, false, false, false, false, false, false, false, false, false] rfl rfl (take_of HT_.out (by kernel_rfl)) (fun _ _ _ h => h) (Or.inl ⟨by first | rfl | (go_simp; done), ?_⟩) hHeld ?_ ?_
                    rotate_left
                    · rintro w' ⟨s0, s1, s2, s3, s4, s5, s6, s7, s8⟩
                      go_simp
                      try (with_reducible rfl)
                    rotate_left
                    · simp only [Act.put, List.setIfInBounds_toArray, List.set_cons_zero, List.set_cons_succ]
                      rfl
                    refine take_ (i := 8) (N := some 124) (v := ?_) (a' := ?_) #[true, true, true, true, true, true, true, true, true, false, false, false, false, false, false, false, false, false, false, false, false, false, false, false, false, false, false, false, false, false, false, false, false, false, false, false, false, false, false, false, false] rfl rfl (take_of HT_.out (by kernel_rfl)) (fun _ _ _ h => h) (Or.inl ⟨by first | rfl | (go_simp; done), ?_⟩) hHeld ?_ ?_
                    rotate_left
                    · rintro w' ⟨s0, s1, s2, s3, s4, s5, s6, s7, s8⟩
                      go_simp
                      try (with_reducible rfl)
                    rotate_left
                    · simp only [Act.put, List.setIfInBounds_toArray, List.set_cons_zero, List.set_cons_succ]
                      rfl
                    refine take_ (i := 9) (N := some 125) (v := ?_) (a' := ?_) #[true, true, true, true, true, true, true, true, true, true, false, false, false, false, false, false, false, false, false, false, false, false, false, false, false, false, false, false, false, false, false, false, false, false, false, false, false, false, false, false, false] rfl rfl (take_of HT_.out (by kernel_rfl)) (fun _ _ _ h => h) (Or.inl ⟨by first | rfl | (go_simp; done), ?_⟩) hHeld ?_ ?_
                    rotate_left
                    · rintro w' ⟨s0, s1, s2, s3, s4, s5, s6, s7, s8⟩
                      go_simp
                      try (with_reducible rfl)
                    rotate_left
                    · simp only [Act.put, List.setIfInBounds_toArray, List.set_cons_zero, List.set_cons_succ]
                      rfl
                    refine take_ (i := 10) (N := some 126) (v := ?_) (a' := ?_) #[true, true, true, true, true, true, true, true, true, true, true, false, false, false, false, false, false, false, false, false, false, false, false, false, false, false, false, false, false, false, false, false, false, false, false, false, false, false, false, false, false] rfl rfl (take_of HT_.out (by kernel_rfl)) (fun _ _ _ h => h) (Or.inl ⟨by first | rfl | (go_simp; done), ?_⟩) hHeld ?_ ?_
                    rotate_left
                    · rintro w' ⟨s0, s1, s2, s3, s4, s5, s6, s7, s8⟩
                      go_simp
                      try (with_reducible rfl)
                    rotate_left
                    · simp only [Act.put, List.setIfInBounds_toArray, List.set_cons_zero, List.set_cons_succ]
                      rfl
                    refine take_ (i := 11) (N := some 127) (v := ?_) (a' := ?_) #[true, true, true, true, true, true, true, true, true, true, true, true, false, false, false, false, false, false, false, false, false, false, false, false, false, false, false, false, false, false, false, false, false, false, false, false, false, false, false, false, false] rfl rfl (take_of HT_.out (by kernel_rfl)) (fun _ _ _ h => h) (Or.inl ⟨by first | rfl | (go_simp; done), ?_⟩) hHeld ?_ ?_
                    rotate_left
                    · rintro w' ⟨s0, s1, s2, s3, s4, s5, s6, s7, s8⟩
                      go_simp
                      try (with_reducible rfl)
                    rotate_left
                    · simp only [Act.put, List.setIfInBounds_toArray, List.set_cons_zero, List.set_cons_succ]
                      rfl
                    refine take_ (i := 12) (N := some 128) (v := ?_) (a' := ?_) #[true, true, true, true, true, true, true, true, true, true, true, true, true, false, false, false, false, false, false, false, false, false, false, false, false, false, false, false, false, false, false, false, false, false, false, false, false, false, false, false, false] rfl rfl (take_of HT_.out (by kernel_rfl)) (fun _ _ _ h => h) (Or.inl ⟨by first | rfl | (go_simp; done), ?_⟩) hHeld ?_ ?_
                    rotate_left
                    · rintro w' ⟨s0, s1, s2, s3, s4, s5, s6, s7, s8⟩
                      go_simp
                      try (with_reducible rfl)
                    rotate_left
                    · simp only [Act.put, List.setIfInBounds_toArray, List.set_cons_zero, List.set_cons_succ]
                      rfl
                    refine take_ (i := 13) (N := some 129) (v := ?_) (a' := ?_) #[true, true, true, true, true, true, true, true, true, true, true, true, true, true, false, false, false, false, false, false, false, false, false, false, false, false, false, false, false, false, false, false, false, false, false, false, false, false, false, false, false] rfl rfl (take_of HT_.out (by kernel_rfl)) (fun _ _ _ h => h) (Or.inl ⟨by first | rfl | (go_simp; done), ?_⟩) hHeld ?_ ?_
                    rotate_left
                    · rintro w' ⟨s0, s1, s2, s3, s4, s5, s6, s7, s8⟩
                      go_simp
                      try (with_reducible rfl)
                    rotate_left
                    · simp only [Act.put, List.setIfInBounds_toArray, List.set_cons_zero, List.set_cons_succ]
                      rfl
                    refine take_ (i := 14) (N := some 130) (v := ?_) (a' := ?_) #[true, true, true, true, true, true, true, true, true, true, true, true, true, true, true, false, false, false, false, false, false, false, false, false, false, false, false, false, false, false, false, false, false, false, false, false, false, false, false, false, false] rfl rfl (take_of HT_.out (by kernel_rfl)) (fun _ _ _ h => h) (Or.inl ⟨by first | rfl | (go_simp; done), ?_⟩) hHeld ?_ ?_
                    rotate_left
                    · rintro w' ⟨s0, s1, s2, s3, s4, s5, s6, s7, s8⟩
                      go_simp
                      try (with_reducible rfl)
                    rotate_left
                    · simp only [Act.put, List.setIfInBounds_toArray, List.set_cons_zero, List.set_cons_succ]
                      rfl
                    refine take_ (i := 15) (N := some 131) (v := ?_) (a' := ?_) #[true, true, true, true, true, true, true, true, true, true, true, true, true, true, true, true, false, false, false, false, false, false, false, false, false, false, false, false, false, false, false, false, false, false, false, false, false, false, false, false, false] rfl rfl (take_of HT_.out (by kernel_rfl)) (fun _ _ _ h => h) (Or.inl ⟨by first | rfl | (go_simp; done), ?_⟩) hHeld ?_ ?_
                    rotate_left
                    · rintro w' ⟨s0, s1, s2, s3, s4, s5, s6, s7, s8⟩
                      go_simp
                      try (with_reducible rfl)
                    rotate_left
                    · simp only [Act.put, List.setIfInBounds_toArray, List.set_cons_zero, List.set_cons_succ]
                      rfl
                    refine take_ (i := 16) (N := some 132) (v := ?_) (a' := ?_) #[true, true, true, true, true, true, true, true, true, true, true, true, true, true, true, true, true, false, false, false, false, false, false, false, false, false, false, false, false, false, false, false, false, false, false, false, false, false, false, false, false] rfl rfl (take_of HT_.out (by kernel_rfl)) (fun _ _ _ h => h) (Or.inl ⟨by first | rfl | (go_simp; done), ?_⟩) hHeld ?_ ?_
                    rotate_left
                    · rintro w' ⟨s0, s1, s2, s3, s4, s5, s6, s7, s8⟩
                      go_simp
                      try (with_reducible rfl)
                    rotate_left
                    · simp only [Act.put, List.setIfInBounds_toArray, List.set_cons_zero, List.set_cons_succ]
                      rfl
                    refine take_ (i := 17) (N := some 133) (v := ?_) (a' := ?_) #[true, true, true, true, true, true, true, true, true, true, true, true, true, true, true, true, true, true, false, false, false, false, false, false, false, false, false, false, false, false, false, false, false, false, false, false, false, false, false, false, false] rfl rfl (take_of HT_.out (by kernel_rfl)) (fun _ _ _ h => h) (Or.inl ⟨by first | rfl | (go_simp; done), ?_⟩) hHeld ?_ ?_
                    rotate_left
                    · rintro w' ⟨s0, s1, s2, s3, s4, s5, s6, s7, s8⟩
                      go_simp
                      try (with_reducible rfl)
                    rotate_left
                    · simp only [Act.put, List.setIfInBounds_toArray, List.set_cons_zero, List.set_cons_succ]
                      rfl
                    refine take_ (i := 18) (N := some 134) (v := ?_) (a' := ?_) #[true, true, true, true, true, true, true, true, true, true, true, true, true, true, true, true, true, true, true, false, false, false, false, false, false, false, false, false, false, false, false, false, false, false, false, false, false, false, false, false, false] rfl rfl (take_of HT_.out (by kernel_rfl)) (fun _ _ _ h => h) (Or.inl ⟨by first | rfl | (go_simp; done), ?_⟩) hHeld ?_ ?_
                    rotate_left
                    · rintro w' ⟨s0, s1, s2, s3, s4, s5, s6, s7, s8⟩
                      go_simp
                      try (with_reducible rfl)
                    rotate_left
                    · simp only [Act.put, List.setIfInBounds_toArray, List.set_cons_zero, List.set_cons_succ]
                      rfl
                    refine take_ (i := 19) (N := some 135) (v := ?_) (a' := ?_) #[true, true, true, true, true, true, true, true, true, true, true, true, true, true, true, true, true, true, true, true, false, false, false, false, false, false, false, false, false, false, false, false, false, false, false, false, false, false, false, false, false] rfl rfl (take_of HT_.out (by kernel_rfl)) (fun _ _ _ h => h) (Or.inl ⟨by first | rfl | (go_simp; done), ?_⟩) hHeld ?_ ?_
                    rotate_left
                    · rintro w' ⟨s0, s1, s2, s3, s4, s5, s6, s7, s8⟩
                      go_simp
                      try (with_reducible rfl)
                    rotate_left
                    · simp only [Act.put, List.setIfInBounds_toArray, List.set_cons_zero, List.set_cons_succ]
                      rfl
                    refine take_ (i := 20) (N := some 136) (v := ?_) (a' := ?_) #[true, true, true, true, true, true, true, true, true, true, true, true, true, true, true, true, true, true, true, true, true, false, false, false, false, false, false, false, false, false, false, false, false, false, false, false, false, false, false, false, false] rfl rfl (take_of HT_.out (by kernel_rfl)) (fun _ _ _ h => h) (Or.inl ⟨by first | rfl | (go_simp; done), ?_⟩) hHeld ?_ ?_
                    rotate_left
                    · rintro w' ⟨s0, s1, s2, s3, s4, s5, s6, s7, s8⟩
                      go_simp
                      try (with_reducible rfl)
                    rotate_left
                    · simp only [Act.put, List.setIfInBounds_toArray, List.set_cons_zero, List.set_cons_succ]
                      rfl
                    refine take_ (i := 21) (N := some 137) (v := ?_) (a' := ?_) #[true, true, true, true, true, true, true, true, true, true, true, true, true, true, true, true, true, true, true, true, true, true, false, false, false, false, false, false, false, false, false, false, false, false, false, false, false, false, false, false, false] rfl rfl (take_of HT_.out (by kernel_rfl)) (fun _ _ _ h => h) (Or.inl ⟨by first | rfl | (go_simp; done), ?_⟩) hHeld ?_ ?_
                    rotate_left
                    · rintro w' ⟨s0, s1, s2, s3, s4, s5, s6, s7, s8⟩
                      go_simp
                      try (with_reducible rfl)
                    rotate_left
                    · simp only [Act.put, List.setIfInBounds_toArray, List.set_cons_zero, List.set_cons_succ]
                      rfl
                    refine take_ (i := 22) (N := some 138) (v := ?_) (a' := ?_) #[true, true, true, true, true, true, true, true, true, true, true, true, true, true, true, true, true, true, true, true, true, true, true, false, false, false, false, false, false, false, false, false, false, false, false, false, false, false, false, false, false] rfl rfl (take_of HT_.out (by kernel_rfl)) (fun _ _ _ h => h) (Or.inl ⟨by first | rfl | (go_simp; done), ?_⟩) hHeld ?_ ?_
                    rotate_left
                    · rintro w' ⟨s0, s1, s2, s3, s4, s5, s6, s7, s8⟩
                      go_simp
                      try (with_reducible rfl)
                    rotate_left
                    · simp only [Act.put, List.setIfInBounds_toArray, List.set_cons_zero, List.set_cons_succ]
                      rfl
                    refine take_ (i := 23) (N := some 139) (v := ?_) (a' := ?_) #[true, true, true, true, true, true, true, true, true, true, true, true, true, true, true, true, true, true, true, true, true, true, true, true, false, false, false, false, false, false, false, false, false, false, false, false, false, false, false, false, false] rfl rfl (take_of HT_.out (by kernel_rfl)) (fun _ _ _ h => h) (Or.inl ⟨by first | rfl | (go_simp; done), ?_⟩) hHeld ?_ ?_
                    rotate_left
                    · rintro w' ⟨s0, s1, s2, s3, s4, s5, s6, s7, s8⟩
                      go_simp
                      try (with_reducible rfl)
                    rotate_left
                    · simp only [Act.put, List.setIfInBounds_toArray, List.set_cons_zero, List.set_cons_succ]
                      rfl
                    refine take_ (i := 24) (N := some 140) (v := ?_) (a' := ?_) #[true, true, true, true, true, true, true, true, true, true, true, true, true, true, true, true, true, true, true, true, true, true, true, true, true, false, false, false, false, false, false, false, false, false, false, false, false, false, false, false, false] rfl rfl (take_of HT_.out (by kernel_rfl)) (fun _ _ _ h => h) (Or.inl ⟨by first | rfl | (go_simp; done), ?_⟩) hHeld ?_ ?_
                    rotate_left
                    · rintro w' ⟨s0, s1, s2, s3, s4, s5, s6, s7, s8⟩
                      go_simp
                      try (with_reducible rfl)
                    rotate_left
                    · simp only [Act.put, List.setIfInBounds_toArray, List.set_cons_zero, List.set_cons_succ]
                      rfl
                    refine take_ (i := 25) (N := some 141) (v := ?_) (a' := ?_) #[true, true, true, true, true, true, true, true, true, true, true, true, true, true, true, true, true, true, true, true, true, true, true, true, true, true, false, false, false, false, false, false, false, false, false, false, false, false, false, false, false] rfl rfl (take_of HT_.out (by kernel_rfl)) (fun _ _ _ h => h) (Or.inl ⟨by first | rfl | (go_simp; done), ?_⟩) hHeld ?_ ?_
                    rotate_left
                    · rintro w' ⟨s0, s1, s2, s3, s4, s5, s6, s7, s8⟩
                      go_simp
                      try (with_reducible rfl)
                    rotate_left
                    · simp only [Act.put, List.setIfInBounds_toArray, List.set_cons_zero, List.set_cons_succ]
                      rfl
                    refine take_ (i := 26) (N := some 142) (v := ?_) (a' := ?_) #[true, true, true, true, true, true, true, true, true, true, true, true, true, true, true, true, true, true, true, true, true, true, true, true, true, true, true, false, false, false, false, false, false, false, false, false, false, false, false, false, false] rfl rfl (take_of HT_.out (by kernel_rfl)) (fun _ _ _ h => h) (Or.inl ⟨by first | rfl | (go_simp; done), ?_⟩) hHeld ?_ ?_
                    rotate_left
                    · rintro w' ⟨s0, s1, s2, s3, s4, s5, s6, s7, s8⟩
                      go_simp
                      try (with_reducible rfl)
                    rotate_left
                    · simp only [Act.put, List.setIfInBounds_toArray, List.set_cons_zero, List.set_cons_succ]
                      rfl
                    refine take_ (i := 27) (N := some 143) (v := ?_) (a' := ?_) #[true, true, true, true, true, true, true, true, true, true, true, true, true, true, true, true, true, true, true, true, true, true, true, true, true, true, true, true, false, false, false, false, false, false, false, false, false, false, false, false, false] rfl rfl (take_of HT_.out (by kernel_rfl)) (fun _ _ _ h => h) (Or.inl ⟨by first | rfl | (go_simp; done), ?_⟩) hHeld ?_ ?_
                    rotate_left
                    · rintro w' ⟨s0, s1, s2, s3, s4, s5, s6, s7, s8⟩
                      go_simp
                      try (with_reducible rfl)
                    rotate_left
                    · simp only [Act.put, List.setIfInBounds_toArray, List.set_cons_zero, List.set_cons_succ]
                      rfl
                    refine take_ (i := 28) (N := some 144) (v := ?_) (a' := ?_) #[true, true, true, true, true, true, true, true, true, true, true, true, true, true, true, true, true, true, true, true, true, true, true, true, true, true, true, true, true, false, false, false, false, false, false, false, false, false, false, false, false] rfl rfl (take_of HT_.out (by kernel_rfl)) (fun _ _ _ h => h) (Or.inl ⟨by first | rfl | (go_simp; done), ?_⟩) hHeld ?_ ?_
                    rotate_left
                    · rintro w' ⟨s0, s1, s2, s3, s4, s5, s6, s7, s8⟩
                      go_simp
                      try (with_reducible rfl)
                    rotate_left
                    · simp only [Act.put, List.setIfInBounds_toArray, List.set_cons_zero, List.set_cons_succ]
                      rfl
                    refine take_ (i := 29) (N := some 145) (v := ?_) (a' := ?_) #[true, true, true, true, true, true, true, true, true, true, true, true, true, true, true, true, true, true, true, true, true, true, true, true, true, true, true, true, true, true, false, false, false, false, false, false, false, false, false, false, false] rfl rfl (take_of HT_.out (by kernel_rfl)) (fun _ _ _ h => h) (Or.inl ⟨by first | rfl | (go_simp; done), ?_⟩) hHeld ?_ ?_
                    rotate_left
                    · rintro w' ⟨s0, s1, s2, s3, s4, s5, s6, s7, s8⟩
                      go_simp
                      try (with_reducible rfl)
                    rotate_left
                    · simp only [Act.put, List.setIfInBounds_toArray, List.set_cons_zero, List.set_cons_succ]
                      rfl
                    refine take_ (i := 30) (N := some 146) (v := ?_) (a' := ?_) #[true, true, true, true, true, true, true, true, true, true, true, true, true, true, true, true, true, true, true, true, true, true, true, true, true, true, true, true, true, true, true, false, false, false, false, false, false, false, false, false, false] rfl rfl (take_of HT_.out (by kernel_rfl)) (fun _ _ _ h => h) (Or.inl ⟨by first | rfl | (go_simp; done), ?_⟩) hHeld ?_ ?_
                    rotate_left
                    · rintro w' ⟨s0, s1, s2, s3, s4, s5, s6, s7, s8⟩
                      go_simp
                      try (with_reducible rfl)
                    rotate_left
                    · simp only [Act.put, List.setIfInBounds_toArray, List.set_cons_zero, List.set_cons_succ]
                      rfl
                    refine take_ (i := 31) (N := some 147) (v := ?_) (a' := ?_) #[true, true, true, true, true, true, true, true, true, true, true, true, true, true, true, true, true, true, true, true, true, true, true, true, true, true, true, true, true, true, true, true, false, false, false, false, false, false, false, false, false] rfl rfl (take_of HT_.out (by kernel_rfl)) (fun _ _ _ h => h) (Or.inl ⟨by first | rfl | (go_simp; done), ?_⟩) hHeld ?_ ?_
                    rotate_left
                    · rintro w' ⟨s0, s1, s2, s3, s4, s5, s6, s7, s8⟩
                      go_simp
                      try (with_reducible rfl)
                    rotate_left
                    · simp only [Act.put, List.setIfInBounds_toArray, List.set_cons_zero, List.set_cons_succ]
                      rfl
                    refine take_ (i := 32) (N := some 148) (v := ?_) (a' := ?_) #[true, true, true, true, true, true, true, true, true, true, true, true, true, true, true, true, true, true, true, true, true, true, true, true, true, true, true, true, true, true, true, true, true, false, false, false, false, false, false, false, false] rfl rfl (take_of HT_.out (by kernel_rfl)) (fun _ _ _ h => h) (Or.inl ⟨by first | rfl | (go_simp; done), ?_⟩) hHeld ?_ ?_
                    rotate_left
                    · rintro w' ⟨s0, s1, s2, s3, s4, s5, s6, s7, s8⟩
                      go_simp
                      try (with_reducible rfl)
                    rotate_left
                    · simp only [Act.put, List.setIfInBounds_toArray, List.set_cons_zero, List.set_cons_succ]
                      rfl
                    refine take_ (i := 33) (N := some 149) (v := ?_) (a' := ?_) #[true, true, true, true, true, true, true, true, true, true, true, true, true, true, true, true, true, true, true, true, true, true, true, true, true, true, true, true, true, true, true, true, true, true, false, false, false, false, false, false, false] rfl rfl (take_of HT_.out (by kernel_rfl)) (fun _ _ _ h => h) (Or.inl ⟨by first | rfl | (go_simp; done), ?_⟩) hHeld ?_ ?_
                    rotate_left
                    · rintro w' ⟨s0, s1, s2, s3, s4, s5, s6, s7, s8⟩
                      go_simp
                      try (with_reducible rfl)
                    rotate_left
                    · simp only [Act.put, List.setIfInBounds_toArray, List.set_cons_zero, List.set_cons_succ]
                      rfl
                    refine take_ (i := 34) (N := some 150) (v := ?_) (a' := ?_) #[true, true, true, true, true, true, true, true, true, true, true, true, true, true, true, true, true, true, true, true, true, true, true, true, true, true, true, true, true, true, true, true, true, true, true, false, false, false, false, false, false] rfl rfl (take_of HT_.out (by kernel_rfl)) (fun _ _ _ h => h) (Or.inl ⟨by first | rfl | (go_simp; done), ?_⟩) hHeld ?_ ?_
                    rotate_left
                    · rintro w' ⟨s0, s1, s2, s3, s4, s5, s6, s7, s8⟩
                      go_simp
                      try (with_reducible rfl)
                    rotate_left
                    · simp only [Act.put, List.setIfInBounds_toArray, List.set_cons_zero, List.set_cons_succ]
                      rfl
                    refine take_ (i := 35) (N := some 151) (v := ?_) (a' := ?_) #[true, true, true, true, true, true, true, true, true, true, true, true, true, true, true, true, true, true, true, true, true, true, true, true, true, true, true, true, true, true, true, true, true, true, true, true, false, false, false, false, false] rfl rfl (take_of HT_.out (by kernel_rfl)) (fun _ _ _ h => h) (Or.inl ⟨by first | rfl | (go_simp; done), ?_⟩) hHeld ?_ ?_
                    rotate_left
                    · rintro w' ⟨s0, s1, s2, s3, s4, s5, s6, s7, s8⟩
                      go_simp
                      try (with_reducible rfl)
                    rotate_left
                    · simp only [Act.put, List.setIfInBounds_toArray, List.set_cons_zero, List.set_cons_succ]
                      rfl
                    refine take_ (i := 36) (N := some 152) (v := undef) (a' := ?_) #[true, true, true, true, true, true, true, true, true, true, true, true, true, true, true, true, true, true, true, true, true, true, true, true, true, true, true, true, true, true, true, true, true, true, true, true, true, false, false, false, false] rfl rfl (take_of HT_.out (by kernel_rfl)) (fun _ _ _ h => h) (Or.inr ⟨by first | rfl | (go_simp; done), rfl⟩) hHeld ?_ ?_
                    rotate_left
                    · simp only [Act.put, List.setIfInBounds_toArray, List.set_cons_zero, List.set_cons_succ]
                      rfl
                    refine take_ (i := 37) (N := some 153) (v := undef) (a' := ?_) #[true, true, true, true, true, true, true, true, true, true, true, true, true, true, true, true, true, true, true, true, true, true, true, true, true, true, true, true, true, true, true, true, true, true, true, true, true, true, false, false, false] rfl rfl (take_of HT_.out (by kernel_rfl)) (fun _ _ _ h => h) (Or.inr ⟨by first | rfl | (go_simp; done), rfl⟩) hHeld ?_ ?_
                    rotate_left
                    · simp only [Act.put, List.setIfInBounds_toArray, List.set_cons_zero, List.set_cons_succ]
                      rfl
                    refine take_ (i := 38) (N := some 154) (v := undef) (a' := ?_) #[true, true, true, true, true, true, true, true, true, true, true, true, true, true, true, true, true, true, true, true, true, true, true, true, true, true, true, true, true, true, true, true, true, true, true, true, true, true, true, false, false] rfl rfl (take_of HT_.out (by kernel_rfl)) (fun _ _ _ h => h) (Or.inr ⟨by first | rfl | (go_simp; done), rfl⟩) hHeld ?_ ?_
                    rotate_left
                    · simp only [Act.put, List.setIfInBounds_toArray, List.set_cons_zero, List.set_cons_succ]
                      rfl
                    refine take_ (i := 39) (N := some 155) (v := ?_) (a' := ?_) #[true, true, true, true, true, true, true, true, true, true, true, true, true, true, true, true, true, true, true, true, true, true, true, true, true, true, true, true, true, true, true, true, true, true, true, true, true, true, true, true, false] rfl rfl (take_of HT_.out (by kernel_rfl)) (fun _ _ _ h => h) (Or.inl ⟨by first | rfl | (go_simp; done), ?_⟩) hHeld ?_ ?_
                    rotate_left
                    · rintro w' ⟨s0, s1, s2, s3, s4, s5, s6, s7, s8⟩
                      go_simp
                      try (with_reducible rfl)
                    rotate_left
                    · simp only [Act.put, List.setIfInBounds_toArray, List.set_cons_zero, List.set_cons_succ]
                      rfl
                    refine take_ (i := 40) (N := some 156) (v := ?_) (a' := ?_) #[true, true, true, true, true, true, true, true, true, true, true, true, true, true, true, true, true, true, true, true, true, true, true, true, true, true, true, true, true, true, true, true, true, true, true, true, true, true, true, true, true] rfl rfl (take_of HT_.out (by kernel_rfl)) (fun _ _ _ h => h) (Or.inl ⟨by first | rfl | (go_simp; done), ?_⟩) hHeld ?_ ?_
                    rotate_left
                    · rintro w' ⟨s0, s1, s2, s3, s4, s5, s6, s7, s8⟩
                      go_simp
                      try (with_reducible rfl)
                    rotate_left
                    · simp only [Act.put, List.setIfInBounds_toArray, List.set_cons_zero, List.set_cons_succ]
                      rfl
                    refine done_ (done_of HT_.out (by kernel_rfl)) ?_
                    refine NoPanic.normal ?_
                    go_wp2
                    go_meet
                    exact ⟨rfl, HM.out.below (Nat.le_refl _) hB⟩
                  · have q13 : (en == 2) = false := beq_eq_false_iff_ne.2 (by omega)
                    have q14 : (en != 2) = true := bne_iff_ne.2 (by omega)
                    have q15 : (en = 2) = False := eq_false (by omega)
                    clear hen
                    refine wp_region_noPanic ?_
                    refine start_ (n := 41) (S := (fun w' => w'.cell? ⟨z, 0, none⟩ = some (.int .i64 0) ∧ w'.cell? ⟨z, 1, none⟩ = some (.int .i64 0) ∧ w'.cell? ⟨z, 2, none⟩ = some (.int .i64 0) ∧ w'.cell? ⟨z, 3, none⟩ = some (.int .i64 0) ∧ w'.cell? ⟨z, 4, none⟩ = some (.int .u64 0))) (ds := []) #[false, false, false, false, false, false, false, false, false, false, false, false, false, false, false, false, false, false, false, false, false, false, false, false, false, false, false, false, false, false, false, false, false, false, false, false, false, false, false, false, false] (by kernel_rfl) rfl rfl (by (try dsimp only); exact ⟨pw_cell_below hB z0, pw_cell_below hB z1, pw_cell_below hB z2, pw_cell_below hB z3, pw_cell_below hB z4⟩) (fun hHeld => ?_)
                    refine with_tab plays21_tab (fun HT_ => ?_)
                    generalize wc.drew = w0d at hB hHeld ⊢
                    refine take_ (i := 0) (N := some 116) (v := ?_) (a' := ?_) #[true, false, false, false, false, false, false, false, false, false, false, false, false, false, false, false, false, false, false, false, false, false, false, false, false, false, false, false, false, false, false, false, false, false, false, false, false, false, false, false, false] rfl rfl (take_of HT_.out (by kernel_rfl)) (fun _ _ _ h => h) (Or.inl ⟨by first | rfl | (go_simp; done), ?_⟩) hHeld ?_ ?_
                    rotate_left
                    · rintro w' ⟨s0, s1, s2, s3, s4⟩
                      go_simp
                      try (with_reducible rfl)
                    rotate_left
                    · simp only [Act.put, List.setIfInBounds_toArray, List.set_cons_zero, List.set_cons_succ]
                      rfl
                    refine take_ (i := 1) (N := some 117) (v := ?_) (a' := ?_) #[true, true, false, false, false, false, false, false, false, false, false, false, false, false, false, false, false, false, false, false, false, false, false, false, false, false, false, false, false, false, false, false, false, false, false, false, false, false, false, false, false] rfl rfl (take_of HT_.out (by kernel_rfl)) (fun _ _ _ h => h) (Or.inl ⟨by first | rfl | (go_simp; done), ?_⟩) hHeld ?_ ?_
                    rotate_left
                    · rintro w' ⟨s0, s1, s2, s3, s4⟩
                      go_simp
                      try (with_reducible rfl)
                    rotate_left
                    · simp only [Act.put, List.setIfInBounds_toArray, List.set_cons_zero, List.set_cons_succ]
                      rfl
                    refine take_ (i := 2) (N := some 118) (v := ?_) (a' := ?_) #[true, true, true, false, false, false, false, false, false, false, false, false, false, false, false, false, false, false, false, false, false, false, false, false, false, false, false, false, false, false, false, false, false, false, false, false, false, false, false, false, false] rfl rfl (take_of HT_.out (by kernel_rfl)) (fun _ _ _ h => h) (Or.inl ⟨by first | rfl | (go_simp; done), ?_⟩) hHeld ?_ ?_
                    rotate_left
                    · rintro w' ⟨s0, s1, s2, s3, s4⟩
                      go_simp
                      try (with_reducible rfl)
                    rotate_left
                    · simp only [Act.put, List.setIfInBounds_toArray, List.set_cons_zero, List.set_cons_succ]
                      rfl
                    refine take_ (i := 3) (N := some 119) (v := undef) (a' := ?_) #[true, true, true, true, false, false, false, false, false, false, false, false, false, false, false, false, false, false, false, false, false, false, false, false, false, false, false, false, false, false, false, false, false, false, false, false, false, false, false, false, false] rfl rfl (take_of HT_.out (by kernel_rfl)) (fun _ _ _ h => h) (Or.inr ⟨by first | rfl | (go_simp; done), rfl⟩) hHeld ?_ ?_
                    rotate_left
                    · simp only [Act.put, List.setIfInBounds_toArray, List.set_cons_zero, List.set_cons_succ]
                      rfl
                    refine take_ (i := 4) (N := some 120) (v := undef) (a' := ?_) #[true, true, true, true, true, false, false, false, false, false, false, false, false, false, false, false, false, false, false, false, false, false, false, false, false, false, false, false, false, false, false, false, false, false, false, false, false, false, false, false, false] rfl rfl (take_of HT_.out (by kernel_rfl)) (fun _ _ _ h => h) (Or.inr ⟨by first | rfl | (go_simp; done), rfl⟩) hHeld ?_ ?_
                    rotate_left
                    · simp only [Act.put, List.setIfInBounds_toArray, List.set_cons_zero, List.set_cons_succ]
                      rfl
                    refine take_ (i := 5) (N := some 121) (v := undef) (a' := ?_) #[true, true, true, true, true, true, false, false, false, false, false, false, false, false, false, false, false, false, false, false, false, false, false, false, false, false, false, false, false, false, false, false, false, false, false, false, false, false, false, false, false] rfl rfl (take_of HT_.out (by kernel_rfl)) (fun _ _ _ h => h) (Or.inr ⟨by first | rfl | (go_simp; done), rfl⟩) hHeld ?_ ?_
                    rotate_left
                    · simp only [Act.put, List.setIfInBounds_toArray, List.set_cons_zero, List.set_cons_succ]
                      rfl
                    refine take_ (i := 6) (N := some 122) (v := undef) (a' := ?_) #[true, true, true, true, true, true, true, false, false, false, false, false, false, false, false, false, false, false, false, false, false, false, false, false, false, false, false, false, false, false, false, false, false, false, false, false, false, false, false, false, false] rfl rfl (take_of HT_.out (by kernel_rfl)) (fun _ _ _ h => h) (Or.inr ⟨by first | rfl | (go_simp; done), rfl⟩) hHeld ?_ ?_
                    rotate_left
                    · simp only [Act.put, List.setIfInBounds_toArray, List.set_cons_zero, List.set_cons_succ]
                      rfl
                    refine take_ (i := 7) (N := some 123) (v := undef) (a' := ?_) #[true, true, true, true, true, true, true, true, false, false, false, false, false, false, false, false, false, false, false, false, false, false, false, false, false, false, false, false, false, false, false, false, false, false, false, false, false, false, false, false, false] rfl rfl (take_of HT_.out (by kernel_rfl)) (fun _ _ _ h => h) (Or.inr ⟨by first | rfl | (go_simp; done), rfl⟩) hHeld ?_ ?_
                    rotate_left
                    · simp only [Act.put, List.setIfInBounds_toArray, List.set_cons_zero, List.set_cons_succ]
                      rfl
                    refine take_ (i := 8) (N := some 124) (v := undef) (a' := ?_) #[true, true, true, true, true, true, true, true, true, false, false, false, false, false, false, false, false, false, false, false, false, false, false, false, false, false, false, false, false, false, false, false, false, false, false, false, false, false, false, false, false] rfl rfl (take_of HT_.out (by kernel_rfl)) (fun _ _ _ h => h) (Or.inr ⟨by first | rfl | (go_simp; done), rfl⟩) hHeld ?_ ?_
                    rotate_left
                    · simp only [Act.put, List.setIfInBounds_toArray, List.set_cons_zero, List.set_cons_succ]
                      rfl
                    refine take_ (i := 9) (N := some 125) (v := undef) (a' := ?_) #[true, true, true, true, true, true, true, true, true, true, false, false, false, false, false, false, false, false, false, false, false, false, false, false, false, false, false, false, false, false, false, false, false, false, false, false, false, false, false, false, false] rfl rfl (take_of HT_.out (by kernel_rfl)) (fun _ _ _ h => h) (Or.inr ⟨by first | rfl | (go_simp; done), rfl⟩) hHeld ?_ ?_
                    rotate_left
                    · simp only [Act.put, List.setIfInBounds_toArray, List.set_cons_zero, List.set_cons_succ]
                      rfl
                    refine take_ (i := 10) (N := some 126) (v := undef) (a' := ?_) #[true, true, true, true, true, true, true, true, true, true, true, false, false, false, false, false, false, false, false, false, false, false, false, false, false, false, false, false, false, false, false, false, false, false, false, false, false, false, false, false, false] rfl rfl (take_of HT_.out (by kernel_rfl)) (fun _ _ _ h => h) (Or.inr ⟨by first | rfl | (go_simp; done), rfl⟩) hHeld ?_ ?_
                    rotate_left
                    · simp only [Act.put, List.setIfInBounds_toArray, List.set_cons_zero, List.set_cons_succ]
                      rfl
                    refine take_ (i := 11) (N := some 127) (v := undef) (a' := ?_) #[true, true, true, true, true, true, true, true, true, true, true, true, false, false, false, false, false, false, false, false, false, false, false, false, false, false, false, false, false, false, false, false, false, false, false, false, false, false, false, false, false] rfl rfl (take_of HT_.out (by kernel_rfl)) (fun _ _ _ h => h) (Or.inr ⟨by first | rfl | (go_simp; done), rfl⟩) hHeld ?_ ?_
                    rotate_left
                    · simp only [Act.put, List.setIfInBounds_toArray, List.set_cons_zero, List.set_cons_succ]
                      rfl
                    refine take_ (i := 12) (N := some 128) (v := undef) (a' := ?_) #[true, true, true, true, true, true, true, true, true, true, true, true, true, false, false, false, false, false, false, false, false, false, false, false, false, false, false, false, false, false, false, false, false, false, false, false, false, false, false, false, false] rfl rfl (take_of HT_.out (by kernel_rfl)) (fun _ _ _ h => h) (Or.inr ⟨by first | rfl | (go_simp; done), rfl⟩) hHeld ?_ ?_
                    rotate_left
                    · simp only [Act.put, List.setIfInBounds_toArray, List.set_cons_zero, List.set_cons_succ]
                      rfl
                    refine take_ (i := 13) (N := some 129) (v := undef) (a' := ?_) #[true, true, true, true, true, true, true, true, true, true, true, true, true, true, false, false, false, false, false, false, false, false, false, false, false, false, false, false, false, false, false, false, false, false, false, false, false, false, false, false, false] rfl rfl (take_of HT_.out (by kernel_rfl)) (fun _ _ _ h => h) (Or.inr ⟨by first | rfl | (go_simp; done), rfl⟩) hHeld ?_ ?_
                    rotate_left
                    · simp only [Act.put, List.setIfInBounds_toArray, List.set_cons_zero, List.set_cons_succ]
                      rfl
                    refine take_ (i := 14) (N := some 130) (v := undef) (a' := ?_) #[true, true, true, true, true, true, true, true, true, true, true, true, true, true, true, false, false, false, false, false, false, false, false, false, false, false, false, false, false, false, false, false, false, false, false, false, false, false, false, false, false] rfl rfl (take_of HT_.out (by kernel_rfl)) (fun _ _ _ h => h) (Or.inr ⟨by first | rfl | (go_simp; done), rfl⟩) hHeld ?_ ?_
                    rotate_left
                    · simp only [Act.put, List.setIfInBounds_toArray, List.set_cons_zero, List.set_cons_succ]
                      rfl
                    refine take_ (i := 15) (N := some 131) (v := undef) (a' := ?_) #[true, true, true, true, true, true, true, true, true, true, true, true, true, true, true, true, false, false, false, false, false, false, false, false, false, false, false, false, false, false, false, false, false, false, false, false, false, false, false, false, false] rfl rfl (take_of HT_.out (by kernel_rfl)) (fun _ _ _ h => h) (Or.inr ⟨by first | rfl | (go_simp; done), rfl⟩) hHeld ?_ ?_
                    rotate_left
                    · simp only [Act.put, List.setIfInBounds_toArray, List.set_cons_zero, List.set_cons_succ]
                      rfl
                    refine take_ (i := 16) (N := some 132) (v := undef) (a' := ?_) #[true, true, true, true, true, true, true, true, true, true, true, true, true, true, true, true, true, false, false, false, false, false, false, false, false, false, false, false, false, false, false, false, false, false, false, false, false, false, false, false, false] rfl rfl (take_of HT_.out (by kernel_rfl)) (fun _ _ _ h => h) (Or.inr ⟨by first | rfl | (go_simp; done), rfl⟩) hHeld ?_ ?_
                    rotate_left
                    · simp only [Act.put, List.setIfInBounds_toArray, List.set_cons_zero, List.set_cons_succ]
                      rfl
                    refine take_ (i := 17) (N := some 133) (v := undef) (a' := ?_) #[true, true, true, true, true, true, true, true, true, true, true, true, true, true, true, true, true, true, false, false, false, false, false, false, false, false, false, false, false, false, false, false, false, false, false, false, false, false, false, false, false] rfl rfl (take_of HT_.out (by kernel_rfl)) (fun _ _ _ h => h) (Or.inr ⟨by first | rfl | (go_simp; done), rfl⟩) hHeld ?_ ?_
                    rotate_left
                    · simp only [Act.put, List.setIfInBounds_toArray, List.set_cons_zero, List.set_cons_succ]
                      rfl
                    refine take_ (i := 18) (N := some 134) (v := undef) (a' := ?_) #[true, true, true, true, true, true, true, true, true, true, true, true, true, true, true, true, true, true, true, false, false, false, false, false, false, false, false, false, false, false, false, false, false, false, false, false, false, false, false, false, false] rfl rfl (take_of HT_.out (by kernel_rfl)) (fun _ _ _ h => h) (Or.inr ⟨by first | rfl | (go_simp; done), rfl⟩) hHeld ?_ ?_
                    rotate_left
                    · simp only [Act.put, List.setIfInBounds_toArray, List.set_cons_zero, List.set_cons_succ]
                      rfl
                    refine take_ (i := 19) (N := some 135) (v := undef) (a' := ?_) #[true, true, true, true, true, true, true, true, true, true, true, true, true, true, true, true, true, true, true, true, false, false, false, false, false, false, false, false, false, false, false, false, false, false, false, false, false, false, false, false, false] rfl rfl (take_of HT_.out (by kernel_rfl)) (fun _ _ _ h => h) (Or.inr ⟨by first | rfl | (go_simp; done), rfl⟩) hHeld ?_ ?_
                    rotate_left
                    · simp only [Act.put, List.setIfInBounds_toArray, List.set_cons_zero, List.set_cons_succ]
                      rfl
                    refine take_ (i := 20) (N := some 136) (v := undef) (a' := ?_) #[true, true, true, true, true, true, true, true, true, true, true, true, true, true, true, true, true, true, true, true, true, false, false, false, false, false, false, false, false, false, false, false, false, false, false, false, false, false, false, false, false] rfl rfl (take_of HT_.out (by kernel_rfl)) (fun _ _ _ h => h) (Or.inr ⟨by first | rfl | (go_simp; done), rfl⟩) hHeld ?_ ?_
                    rotate_left
                    · simp only [Act.put, List.setIfInBounds_toArray, List.set_cons_zero, List.set_cons_succ]
                      rfl
                    refine take_ (i := 21) (N := some 137) (v := undef) (a' := ?_) #[true, true, true, true, true, true, true, true, true, true, true, true, true, true, true, true, true, true, true, true, true, true, false, false, false, false, false, false, false, false, false, false, false, false, false, false, false, false, false, false, false] rfl rfl (take_of HT_.out (by kernel_rfl)) (fun _ _ _ h => h) (Or.inr ⟨by first | rfl | (go_simp; done), rfl⟩) hHeld ?_ ?_
                    rotate_left
                    · simp only [Act.put, List.setIfInBounds_toArray, List.set_cons_zero, List.set_cons_succ]
                      rfl
                    refine take_ (i := 22) (N := some 138) (v := undef) (a' := ?_) #[true, true, true, true, true, true, true, true, true, true, true, true, true, true, true, true, true, true, true, true, true, true, true, false, false, false, false, false, false, false, false, false, false, false, false, false, false, false, false, false, false] rfl rfl (take_of HT_.out (by kernel_rfl)) (fun _ _ _ h => h) (Or.inr ⟨by first | rfl | (go_simp; done), rfl⟩) hHeld ?_ ?_
                    rotate_left
                    · simp only [Act.put, List.setIfInBounds_toArray, List.set_cons_zero, List.set_cons_succ]
                      rfl
                    refine take_ (i := 23) (N := some 139) (v := undef) (a' := ?_) #[true, true, true, true, true, true, true, true, true, true, true, true, true, true, true, true, true, true, true, true, true, true, true, true, false, false, false, false, false, false, false, false, false, false, false, false, false, false, false, false, false] rfl rfl (take_of HT_.out (by kernel_rfl)) (fun _ _ _ h => h) (Or.inr ⟨by first | rfl | (go_simp; done), rfl⟩) hHeld ?_ ?_
                    rotate_left
                    · simp only [Act.put, List.setIfInBounds_toArray, List.set_cons_zero, List.set_cons_succ]
                      rfl
                    refine take_ (i := 24) (N := some 140) (v := undef) (a' := ?_) #[true, true, true, true, true, true, true, true, true, true, true, true, true, true, true, true, true, true, true, true, true, true, true, true, true, false, false, false, false, false, false, false, false, false, false, false, false, false, false, false, false] rfl rfl (take_of HT_.out (by kernel_rfl)) (fun _ _ _ h => h) (Or.inr ⟨by first | rfl | (go_simp; done), rfl⟩) hHeld ?_ ?_
                    rotate_left
                    · simp only [Act.put, List.setIfInBounds_toArray, List.set_cons_zero, List.set_cons_succ]
                      rfl
                    refine take_ (i := 25) (N := some 141) (v := undef) (a' := ?_) #[true, true, true, true, true, true, true, true, true, true, true, true, true, true, true, true, true, true, true, true, true, true, true, true, true, true, false, false, false, false, false, false, false, false, false, false, false, false, false, false, false] rfl rfl (take_of HT_.out (by kernel_rfl)) (fun _ _ _ h => h) (Or.inr ⟨by first | rfl | (go_simp; done), rfl⟩) hHeld ?_ ?_
                    rotate_left
                    · simp only [Act.put, List.setIfInBounds_toArray, List.set_cons_zero, List.set_cons_succ]
                      rfl
                    refine take_ (i := 26) (N := some 142) (v := undef) (a' := ?_) #[true, true, true, true, true, true, true, true, true, true, true, true, true, true, true, true, true, true, true, true, true, true, true, true, true, true, true, false, false, false, false, false, false, false, false, false, false, false, false, false, false] rfl rfl (take_of HT_.out (by kernel_rfl)) (fun _ _ _ h => h) (Or.inr ⟨by first | rfl | (go_simp; done), rfl⟩) hHeld ?_ ?_
                    rotate_left
                    · simp only [Act.put, List.setIfInBounds_toArray, List.set_cons_zero, List.set_cons_succ]
                      rfl
                    refine take_ (i := 27) (N := some 143) (v := undef) (a' := ?_) #[true, true, true, true, true, true, true, true, true, true, true, true, true, true, true, true, true, true, true, true, true, true, true, true, true, true, true, true, false, false, false, false, false, false, false, false, false, false, false, false, false] rfl rfl (take_of HT_.out (by kernel_rfl)) (fun _ _ _ h => h) (Or.inr ⟨by first | rfl | (go_simp; done), rfl⟩) hHeld ?_ ?_
                    rotate_left
                    · simp only [Act.put, List.setIfInBounds_toArray, List.set_cons_zero, List.set_cons_succ]
                      rfl
                    refine take_ (i := 28) (N := some 144) (v := undef) (a' := ?_) #[true, true, true, true, true, true, true, true, true, true, true, true, true, true, true, true, true, true, true, true, true, true, true, true, true, true, true, true, true, false, false, false, false, false, false, false, false, false, false, false, false] rfl rfl (take_of HT_.out (by kernel_rfl)) (fun _ _ _ h => h) (Or.inr ⟨by first | rfl | (go_simp; done), rfl⟩) hHeld ?_ ?_
                    rotate_left
                    · simp only [Act.put, List.setIfInBounds_toArray, List.set_cons_zero, List.set_cons_succ]
                      rfl
                    refine take_ (i := 29) (N := some 145) (v := undef) (a' := ?_) #[true, true, true, true, true, true, true, true, true, true, true, true, true, true, true, true, true, true, true, true, true, true, true, true, true, true, true, true, true, true, false, false, false, false, false, false, false, false, false, false, false] rfl rfl (take_of HT_.out (by kernel_rfl)) (fun _ _ _ h => h) (Or.inr ⟨by first | rfl | (go_simp; done), rfl⟩) hHeld ?_ ?_
                    rotate_left
                    · simp only [Act.put, List.setIfInBounds_toArray, List.set_cons_zero, List.set_cons_succ]
                      rfl
                    refine take_ (i := 30) (N := some 146) (v := undef) (a' := ?_) #[true, true, true, true, true, true, true, true, true, true, true, true, true, true, true, true, true, true, true, true, true, true, true, true, true, true, true, true, true, true, true, false, false, false, false, false, false, false, false, false, false] rfl rfl (take_of HT_.out (by kernel_rfl)) (fun _ _ _ h => h) (Or.inr ⟨by first | rfl | (go_simp; done), rfl⟩) hHeld ?_ ?_
                    rotate_left
                    · simp only [Act.put, List.setIfInBounds_toArray, List.set_cons_zero, List.set_cons_succ]
                      rfl
                    refine take_ (i := 31) (N := some 147) (v := ?_) (a' := ?_) #[true, true, true, true, true, true, true, true, true, true, true, true, true, true, true, true, true, true, true, true, true, true, true, true, true, true, true, true, true, true, true, true, false, false, false, false, false, false, false, false, false] rfl rfl (take_of HT_.out (by kernel_rfl)) (fun _ _ _ h => h) (Or.inl ⟨by first | rfl | (go_simp; done), ?_⟩) hHeld ?_ ?_
                    rotate_left
                    · rintro w' ⟨s0, s1, s2, s3, s4⟩
                      go_simp
                      try (with_reducible rfl)
                    rotate_left
                    · simp only [Act.put, List.setIfInBounds_toArray, List.set_cons_zero, List.set_cons_succ]
                      rfl
                    refine take_ (i := 32) (N := some 148) (v := ?_) (a' := ?_) #[true, true, true, true, true, true, true, true, true, true, true, true, true, true, true, true, true, true, true, true, true, true, true, true, true, true, true, true, true, true, true, true, true, false, false, false, false, false, false, false, false] rfl rfl (take_of HT_.out (by kernel_rfl)) (fun _ _ _ h => h) (Or.inl ⟨by first | rfl | (go_simp; done), ?_⟩) hHeld ?_ ?_
                    rotate_left
                    · rintro w' ⟨s0, s1, s2, s3, s4⟩
                      go_simp
                      try (with_reducible rfl)
                    rotate_left
                    · simp only [Act.put, List.setIfInBounds_toArray, List.set_cons_zero, List.set_cons_succ]
                      rfl
                    refine take_ (i := 33) (N := some 149) (v := ?_) (a' := ?_) #[true, true, true, true, true, true, true, true, true, true, true, true, true, true, true, true, true, true, true, true, true, true, true, true, true, true, true, true, true, true, true, true, true, true, false, false, false, false, false, false, false] rfl rfl (take_of HT_.out (by kernel_rfl)) (fun _ _ _ h => h) (Or.inl ⟨by first | rfl | (go_simp; done), ?_⟩) hHeld ?_ ?_
                    rotate_left
                    · rintro w' ⟨s0, s1, s2, s3, s4⟩
                      go_simp
                      try (with_reducible rfl)
                    rotate_left
                    · simp only [Act.put, List.setIfInBounds_toArray, List.set_cons_zero, List.set_cons_succ]
                      rfl
                    refine take_ (i := 34) (N := some 150) (v := ?_) (a' := ?_) #[true, true, true, true, true, true, true, true, true, true, true, true, true, true, true, true, true, true, true, true, true, true, true, true, true, true, true, true, true, true, true, true, true, true, true, false, false, false, false, false, false] rfl rfl (take_of HT_.out (by kernel_rfl)) (fun _ _ _ h => h) (Or.inl ⟨by first | rfl | (go_simp; done), ?_⟩) hHeld ?_ ?_
                    rotate_left
                    · rintro w' ⟨s0, s1, s2, s3, s4⟩
                      go_simp
                      try (with_reducible rfl)
                    rotate_left
                    · simp only [Act.put, List.setIfInBounds_toArray, List.set_cons_zero, List.set_cons_succ]
                      rfl
                    refine take_ (i := 35) (N := some 151) (v := ?_) (a' := ?_) #[true, true, true, true, true, true, true, true, true, true, true, true, true, true, true, true, true, true, true, true, true, true, true, true, true, true, true, true, true, true, true, true, true, true, true, true, false, false, false, false, false] rfl rfl (take_of HT_.out (by kernel_rfl)) (fun _ _ _ h => h) (Or.inl ⟨by first | rfl | (go_simp; done), ?_⟩) hHeld ?_ ?_
                    rotate_left
                    · rintro w' ⟨s0, s1, s2, s3, s4⟩
                      go_simp
                      try (with_reducible rfl)
                    rotate_left
                    · simp only [Act.put, List.setIfInBounds_toArray, List.set_cons_zero, List.set_cons_succ]
                      rfl
                    refine take_ (i := 36) (N := some 152) (v := ?_) (a' := ?_) #[true, true, true, true, true, true, true, true, true, true, true, true, true, true, true, true, true, true, true, true, true, true, true, true, true, true, true, true, true, true, true, true, true, true, true, true, true, false, false, false, false] rfl rfl (take_of HT_.out (by kernel_rfl)) (fun _ _ _ h => h) (Or.inl ⟨by first | rfl | (go_simp; done), ?_⟩) hHeld ?_ ?_
                    rotate_left
                    · rintro w' ⟨s0, s1, s2, s3, s4⟩
                      go_simp
                      try (with_reducible rfl)
                    rotate_left
                    · simp only [Act.put, List.setIfInBounds_toArray, List.set_cons_zero, List.set_cons_succ]
                      rfl
                    refine take_ (i := 37) (N := some 153) (v := ?_) (a' := ?_) #[true, true, true, true, true, true, true, true, true, true, true, true, true, true, true, true, true, true, true, true, true, true, true, true, true, true, true, true, true, true, true, true, true, true, true, true, true, true, false, false, false] rfl rfl (take_of HT_.out (by kernel_rfl)) (fun _ _ _ h => h) (Or.inl ⟨by first | rfl | (go_simp; done), ?_⟩) hHeld ?_ ?_
                    rotate_left
                    · rintro w' ⟨s0, s1, s2, s3, s4⟩
                      go_simp
                      try (with_reducible rfl)
                    rotate_left
                    · simp only [Act.put, List.setIfInBounds_toArray, List.set_cons_zero, List.set_cons_succ]
                      rfl
                    refine take_ (i := 38) (N := some 154) (v := ?_) (a' := ?_) #[true, true, true, true, true, true, true, true, true, true, true, true, true, true, true, true, true, true, true, true, true, true, true, true, true, true, true, true, true, true, true, true, true, true, true, true, true, true, true, false, false] rfl rfl (take_of HT_.out (by kernel_rfl)) (fun _ _ _ h => h) (Or.inl ⟨by first | rfl | (go_simp; done), ?_⟩) hHeld ?_ ?_
                    rotate_left
                    · rintro w' ⟨s0, s1, s2, s3, s4⟩
                      go_simp
                      try (with_reducible rfl)
                    rotate_left
                    · simp only [Act.put, List.setIfInBounds_toArray, List.set_cons_zero, List.set_cons_succ]
                      rfl
                    refine take_ (i := 39) (N := some 155) (v := ?_) (a' := ?_) #[true, true, true, true, true, true, true, true, true, true, true, true, true, true, true, true, true, true, true, true, true, true, true, true, true, true, true, true, true, true, true, true, true, true, true, true, true, true, true, true, false] rfl rfl (take_of HT_.out (by kernel_rfl)) (fun _ _ _ h => h) (Or.inl ⟨by first | rfl | (go_simp; done), ?_⟩) hHeld ?_ ?_
                    rotate_left
                    · rintro w' ⟨s0, s1, s2, s3, s4⟩
                      go_simp
                      try (with_reducible rfl)
                    rotate_left
                    · simp only [Act.put, List.setIfInBounds_toArray, List.set_cons_zero, List.set_cons_succ]
                      rfl
                    refine take_ (i := 40) (N := some 156) (v := ?_) (a' := ?_) #[true, true, true, true, true, true, true, true, true, true, true, true, true, true, true, true, true, true, true, true, true, true, true, true, true, true, true, true, true, true, true, true, true, true, true, true, true, true, true, true, true] rfl rfl (take_of HT_.out (by kernel_rfl)) (fun _ _ _ h => h) (Or.inl ⟨by first | rfl | (go_simp; done), ?_⟩) hHeld ?_ ?_
                    rotate_left
                    · rintro w' ⟨s0, s1, s2, s3, s4⟩
                      go_simp
                      try (with_reducible rfl)
                    rotate_left
                    · simp only [Act.put, List.setIfInBounds_toArray, List.set_cons_zero, List.set_cons_succ]
                      rfl
                    refine done_ (done_of HT_.out (by kernel_rfl)) ?_
                    refine NoPanic.normal ?_
                    go_wp2
                    go_meet
                    exact ⟨rfl, HM.out.below (Nat.le_refl _) hB⟩
                case rest =>
                  clear z0 z1 z2 z3 z4 y1 y4 HM
                  obtain ⟨rfl, hm⟩ := hcut
                  have HM := Aside0.mk hm
                  clear hm
                  have hx := HM.out.x
                  have hy := HM.out.y
                  have r0 : wc.cell? ⟨zx, 0, none⟩ = some (.slice A1 na c1) := (blk_cell hx 0).trans rfl
                  have r1 : wc.cell? ⟨zx, 1, none⟩ = some (.slice A2 nb c2) := (blk_cell hx 1).trans rfl
                  have r2 : wc.cell? ⟨zx, 2, none⟩ = some (.bool tape) := (blk_cell hx 2).trans rfl
                  have r3 : wc.cell? ⟨zx, 3, none⟩ = some (.bool false) := (blk_cell hx 3).trans rfl
                  have r4 : wc.cell? ⟨zx, 4, none⟩ = some vx := (blk_cell hx 4).trans rfl
                  have g0 := blk_frozen hx 0
                  have g1 := blk_frozen hx 1
                  have g2 := blk_frozen hx 2
                  have g3 := blk_frozen hx 3
                  have g4 := blk_frozen hx 4
                  have y0 : wc.cell? ⟨zy, 0, none⟩ = some (.slice B1 ma d1) := (blk_cell hy 0).trans rfl
                  have y1 : wc.cell? ⟨zy, 1, none⟩ = some (.slice B2 mb d2) := (blk_cell hy 1).trans rfl
                  have y2 : wc.cell? ⟨zy, 2, none⟩ = some (.bool tape) := (blk_cell hy 2).trans rfl
                  have y3 : wc.cell? ⟨zy, 3, none⟩ = some (.bool false) := (blk_cell hy 3).trans rfl
                  have y4 : wc.cell? ⟨zy, 4, none⟩ = some (.slice B4 p' d4) := (blk_cell hy 4).trans rfl
                  have hkw : wrap64 ((i : Int) + 1) = ((i + 1 : Nat) : Int) := by have := HI.out.2; unfold wrap64; omega
                  have HKW := Aside0.mk hkw
                  have hk := kept_set5 wc zx (.slice B1 ma d1) (.slice B2 mb d2) (.bool tape) (.bool false) (.slice B4 p' d4)
                  have hn := HM.out.n
                  have hfin : Pl tape wd1 w.heap.size w (set5 wc zx (.slice B1 ma d1) (.slice B2 mb d2) (.bool tape) (.bool false) (.slice B4 p' d4)) s o zs zx T N vl p' wt1 V' S2 vt' vn' B1 ma d1 B2 mb d2 (.slice B4 p' d4) :=
                    ⟨HM.out.j.kept1 hx (.inl rfl) hk, ⟨hn.src.kept hk (blk_ne hn.src.blk hx (by decide)) (fun k hk' e => by obtain ⟨cs, hc⟩ := own_typed hn.src.row k hk'; exact blk_ne hc hx (by decide) e), hn.off, ⟨hn.seen.ge, blk_kept hn.seen.blk hk (blk_ne hn.seen.blk hx (by decide)), own_kept hn.seen.row hk (fun k hk' e => by obtain ⟨cs, hc⟩ := own_typed hn.seen.row k hk'; exact blk_ne hc hx (by decide) e)⟩, hn.noff, hn.ap⟩, set5_50' hx, HM.out.gx,
                      (by
                        have hr := HM.out.r
                        cases tape
                        · exact hr
                        · exact ⟨hr.1, hr.2.1, hr.2.2.1.kept hx hk, hr.2.2.2⟩), own57_kept HM.out.row hx hk, set5_below HM.out.b HM.out.gx, HM.out.pn, HM.out.v, HM.out.s1, HM.out.s0⟩
                  have HFIN := Aside0.mk hfin
                  clear hkw hk hn hfin hx hy
                  go_wp2
                  refine ⟨⟨i + 1, wd1, p', wt1, V', S2, vt', vn', B1, ma, d1, B2, mb, d2, _, by first | (with_reducible exact congrArg (Value.int .i64) HKW.out) | go_num, rfl, by have := HI.out.2; omega, by have := HI.out.1; omega, HFIN.out, ?_⟩, by have := HI.out.2; simp [intOf]; omega⟩
                  have h := HWD.out
                  rw [h]
                  omega
    case rest =>
      clear HP8
      obtain ⟨wd, p, wt, V, S, vt, vn, A1, na, c1, A2, nb, c2, vx, rfl, hpl, hwd⟩ := hcut
      have HPL := Aside0.mk hpl
      have HWD := Aside0.mk hwd
      clear hpl hwd
      go_upto_region 24 with (fail)
      have hx := HPL.out.x
      have hvxs := own_slice HPL.out.row
      obtain ⟨X4, cX, rfl⟩ := hvxs
      obtain ⟨An, cn, rfl⟩ := own_slice HPL.out.n.seen.row
      have z0 : wc.cell? ⟨zs, 0, none⟩ = some (.slice An S.length cn) := (blk_cell HPL.out.n.seen.blk 0).trans rfl
      have x4 : wc.cell? ⟨zx, 4, none⟩ = some (.slice X4 p cX) := (blk_cell hx 4).trans rfl
      obtain ⟨mq, hmq⟩ : ∃ n : Nat, min qs.length 40 = n := ⟨_, rfl⟩
      have hm1 : (if (40 : Int) < (qs.length : Int) then (40 : Int) else (qs.length : Int)) = (mq : Int) := by split <;> omega
      have hm2 : (if 40 < qs.length then (40 : Int) else (qs.length : Int)) = (mq : Int) := by split <;> omega
      rw [hmq] at HWD
      have hB : Below wc.heap.size wc wc.drew := (Below.refl _ _).drew
      clear hx hmq
      by_cases hf0 : frm < 0
      · have q1 : decide (frm < 0) = true := decide_eq_true hf0
        clear hf0
        refine wp_region_noPanic ?_
        refine start_ (n := 19) (S := (fun w' => w'.cell? ⟨zs, 0, none⟩ = some (.slice An S.length cn) ∧ w'.cell? ⟨zx, 4, none⟩ = some (.slice X4 p cX))) (ds := []) #[false, false, false, false, false, false, false, false, false, false, false, false, false, false, false, false, false, false, false] (by kernel_rfl) rfl rfl (by (try dsimp only); exact ⟨pw_cell_below hB z0, pw_cell_below hB x4⟩) (fun hHeld => ?_)
        refine with_tab plays24_tab (fun HT_ => ?_)
        generalize wc.drew = w0d at hB hHeld ⊢
        refine take_ (i := 0) (N := some 158) (v := ?_) (a' := ?_) #[true, false, false, false, false, false, false, false, false, false, false, false, false, false, false, false, false, false, false] rfl rfl (take_of HT_.out (by kernel_rfl)) (fun _ _ _ h => h) (Or.inl ⟨by first | rfl | (go_simp; done), ?_⟩) hHeld ?_ ?_
        rotate_left
        · rintro w' ⟨s0, s1⟩
          go_simp
          try (with_reducible rfl)
        rotate_left
        · simp only [Act.put, List.setIfInBounds_toArray, List.set_cons_zero, List.set_cons_succ]
          rfl
        refine take_ (i := 1) (N := some 159) (v := ?_) (a' := ?_) #[true, true, false, false, false, false, false, false, false, false, false, false, false, false, false, false, false, false, false] rfl rfl (take_of HT_.out (by kernel_rfl)) (fun _ _ _ h => h) (Or.inl ⟨by first | rfl | (go_simp; done), ?_⟩) hHeld ?_ ?_
        rotate_left
        · rintro w' ⟨s0, s1⟩
          go_simp
          try (with_reducible rfl)
        rotate_left
        · simp only [Act.put, List.setIfInBounds_toArray, List.set_cons_zero, List.set_cons_succ]
          rfl
        refine take_ (i := 2) (N := some 160) (v := ?_) (a' := ?_) #[true, true, true, false, false, false, false, false, false, false, false, false, false, false, false, false, false, false, false] rfl rfl (take_of HT_.out (by kernel_rfl)) (fun _ _ _ h => h) (Or.inl ⟨by first | rfl | (go_simp; done), ?_⟩) hHeld ?_ ?_
        rotate_left
        · rintro w' ⟨s0, s1⟩
          go_simp
          try (with_reducible rfl)
        rotate_left
        · simp only [Act.put, List.setIfInBounds_toArray, List.set_cons_zero, List.set_cons_succ]
          rfl
        refine take_ (i := 3) (N := some 161) (v := undef) (a' := ?_) #[true, true, true, true, false, false, false, false, false, false, false, false, false, false, false, false, false, false, false] rfl rfl (take_of HT_.out (by kernel_rfl)) (fun _ _ _ h => h) (Or.inr ⟨by first | rfl | (go_simp; done), rfl⟩) hHeld ?_ ?_
        rotate_left
        · simp only [Act.put, List.setIfInBounds_toArray, List.set_cons_zero, List.set_cons_succ]
          rfl
        refine take_ (i := 4) (N := some 162) (v := undef) (a' := ?_) #[true, true, true, true, true, false, false, false, false, false, false, false, false, false, false, false, false, false, false] rfl rfl (take_of HT_.out (by kernel_rfl)) (fun _ _ _ h => h) (Or.inr ⟨by first | rfl | (go_simp; done), rfl⟩) hHeld ?_ ?_
        rotate_left
        · simp only [Act.put, List.setIfInBounds_toArray, List.set_cons_zero, List.set_cons_succ]
          rfl
        refine take_ (i := 5) (N := some 163) (v := undef) (a' := ?_) #[true, true, true, true, true, true, false, false, false, false, false, false, false, false, false, false, false, false, false] rfl rfl (take_of HT_.out (by kernel_rfl)) (fun _ _ _ h => h) (Or.inr ⟨by first | rfl | (go_simp; done), rfl⟩) hHeld ?_ ?_
        rotate_left
        · simp only [Act.put, List.setIfInBounds_toArray, List.set_cons_zero, List.set_cons_succ]
          rfl
        refine take_ (i := 6) (N := some 164) (v := undef) (a' := ?_) #[true, true, true, true, true, true, true, false, false, false, false, false, false, false, false, false, false, false, false] rfl rfl (take_of HT_.out (by kernel_rfl)) (fun _ _ _ h => h) (Or.inr ⟨by first | rfl | (go_simp; done), rfl⟩) hHeld ?_ ?_
        rotate_left
        · simp only [Act.put, List.setIfInBounds_toArray, List.set_cons_zero, List.set_cons_succ]
          rfl
        refine take_ (i := 7) (N := some 165) (v := undef) (a' := ?_) #[true, true, true, true, true, true, true, true, false, false, false, false, false, false, false, false, false, false, false] rfl rfl (take_of HT_.out (by kernel_rfl)) (fun _ _ _ h => h) (Or.inr ⟨by first | rfl | (go_simp; done), rfl⟩) hHeld ?_ ?_
        rotate_left
        · simp only [Act.put, List.setIfInBounds_toArray, List.set_cons_zero, List.set_cons_succ]
          rfl
        refine take_ (i := 8) (N := some 166) (v := ?_) (a' := ?_) #[true, true, true, true, true, true, true, true, true, false, false, false, false, false, false, false, false, false, false] rfl rfl (take_of HT_.out (by kernel_rfl)) (fun _ _ _ h => h) (Or.inl ⟨by first | rfl | (go_simp; done), ?_⟩) hHeld ?_ ?_
        rotate_left
        · rintro w' ⟨s0, s1⟩
          go_simp
          try (with_reducible rfl)
        rotate_left
        · simp only [Act.put, List.setIfInBounds_toArray, List.set_cons_zero, List.set_cons_succ]
          rfl
        refine take_ (i := 9) (N := some 167) (v := ?_) (a' := ?_) #[true, true, true, true, true, true, true, true, true, true, false, false, false, false, false, false, false, false, false] rfl rfl (take_of HT_.out (by kernel_rfl)) (fun _ _ _ h => h) (Or.inl ⟨by first | rfl | (go_simp; done), ?_⟩) hHeld ?_ ?_
        rotate_left
        · rintro w' ⟨s0, s1⟩
          go_simp
          try (with_reducible rfl)
        rotate_left
        · simp only [Act.put, List.setIfInBounds_toArray, List.set_cons_zero, List.set_cons_succ]
          rfl
        refine take_ (i := 10) (N := some 168) (v := undef) (a' := ?_) #[true, true, true, true, true, true, true, true, true, true, true, false, false, false, false, false, false, false, false] rfl rfl (take_of HT_.out (by kernel_rfl)) (fun _ _ _ h => h) (Or.inr ⟨by first | rfl | (go_simp; done), rfl⟩) hHeld ?_ ?_
        rotate_left
        · simp only [Act.put, List.setIfInBounds_toArray, List.set_cons_zero, List.set_cons_succ]
          rfl
        refine take_ (i := 11) (N := some 169) (v := undef) (a' := ?_) #[true, true, true, true, true, true, true, true, true, true, true, true, false, false, false, false, false, false, false] rfl rfl (take_of HT_.out (by kernel_rfl)) (fun _ _ _ h => h) (Or.inr ⟨by first | rfl | (go_simp; done), rfl⟩) hHeld ?_ ?_
        rotate_left
        · simp only [Act.put, List.setIfInBounds_toArray, List.set_cons_zero, List.set_cons_succ]
          rfl
        refine take_ (i := 12) (N := some 170) (v := undef) (a' := ?_) #[true, true, true, true, true, true, true, true, true, true, true, true, true, false, false, false, false, false, false] rfl rfl (take_of HT_.out (by kernel_rfl)) (fun _ _ _ h => h) (Or.inr ⟨by first | rfl | (go_simp; done), rfl⟩) hHeld ?_ ?_
        rotate_left
        · simp only [Act.put, List.setIfInBounds_toArray, List.set_cons_zero, List.set_cons_succ]
          rfl
        refine take_ (i := 13) (N := some 171) (v := undef) (a' := ?_) #[true, true, true, true, true, true, true, true, true, true, true, true, true, true, false, false, false, false, false] rfl rfl (take_of HT_.out (by kernel_rfl)) (fun _ _ _ h => h) (Or.inr ⟨by first | rfl | (go_simp; done), rfl⟩) hHeld ?_ ?_
        rotate_left
        · simp only [Act.put, List.setIfInBounds_toArray, List.set_cons_zero, List.set_cons_succ]
          rfl
        refine take_ (i := 14) (N := some 172) (v := undef) (a' := ?_) #[true, true, true, true, true, true, true, true, true, true, true, true, true, true, true, false, false, false, false] rfl rfl (take_of HT_.out (by kernel_rfl)) (fun _ _ _ h => h) (Or.inr ⟨by first | rfl | (go_simp; done), rfl⟩) hHeld ?_ ?_
        rotate_left
        · simp only [Act.put, List.setIfInBounds_toArray, List.set_cons_zero, List.set_cons_succ]
          rfl
        refine take_ (i := 15) (N := some 173) (v := undef) (a' := ?_) #[true, true, true, true, true, true, true, true, true, true, true, true, true, true, true, true, false, false, false] rfl rfl (take_of HT_.out (by kernel_rfl)) (fun _ _ _ h => h) (Or.inr ⟨by first | rfl | (go_simp; done), rfl⟩) hHeld ?_ ?_
        rotate_left
        · simp only [Act.put, List.setIfInBounds_toArray, List.set_cons_zero, List.set_cons_succ]
          rfl
        refine take_ (i := 16) (N := some 174) (v := undef) (a' := ?_) #[true, true, true, true, true, true, true, true, true, true, true, true, true, true, true, true, true, false, false] rfl rfl (take_of HT_.out (by kernel_rfl)) (fun _ _ _ h => h) (Or.inr ⟨by first | rfl | (go_simp; done), rfl⟩) hHeld ?_ ?_
        rotate_left
        · simp only [Act.put, List.setIfInBounds_toArray, List.set_cons_zero, List.set_cons_succ]
          rfl
        refine take_ (i := 17) (N := some 175) (v := ?_) (a' := ?_) #[true, true, true, true, true, true, true, true, true, true, true, true, true, true, true, true, true, true, false] rfl rfl (take_of HT_.out (by kernel_rfl)) (fun _ _ _ h => h) (Or.inl ⟨by first | rfl | (go_simp; done), ?_⟩) hHeld ?_ ?_
        rotate_left
        · rintro w' ⟨s0, s1⟩
          go_simp
          try (with_reducible rfl)
        rotate_left
        · simp only [Act.put, List.setIfInBounds_toArray, List.set_cons_zero, List.set_cons_succ]
          rfl
        refine take_ (i := 18) (N := some 10) (v := ?_) (a' := ?_) #[true, true, true, true, true, true, true, true, true, true, true, true, true, true, true, true, true, true, true] rfl rfl (take_of HT_.out (by kernel_rfl)) (fun _ _ _ h => h) (Or.inl ⟨by first | rfl | (go_simp; done), ?_⟩) hHeld ?_ ?_
        rotate_left
        · rintro w' ⟨s0, s1⟩
          go_simp
          try (with_reducible rfl)
        rotate_left
        · simp only [Act.put, List.setIfInBounds_toArray, List.set_cons_zero, List.set_cons_succ]
          rfl
        refine done_ (done_of HT_.out (by kernel_rfl)) ?_
        refine NoPanic.normal ?_
        go_wp2
        all_goals
          go_ret
          exact ⟨rfl, HPL.out.b.trans (hB.mono HPL.out.b.size)⟩
      · have q1 : decide (frm < 0) = false := decide_eq_false hf0
        by_cases hfm : (mq : Int) ≤ frm
        · have q2 : decide ((mq : Int) ≤ frm) = true := decide_eq_true hfm
          clear hf0 hfm
          refine wp_region_noPanic ?_
          refine start_ (n := 19) (S := (fun w' => w'.cell? ⟨zs, 0, none⟩ = some (.slice An S.length cn) ∧ w'.cell? ⟨zx, 4, none⟩ = some (.slice X4 p cX))) (ds := []) #[false, false, false, false, false, false, false, false, false, false, false, false, false, false, false, false, false, false, false] (by kernel_rfl) rfl rfl (by (try dsimp only); exact ⟨pw_cell_below hB z0, pw_cell_below hB x4⟩) (fun hHeld => ?_)
          refine with_tab plays24_tab (fun HT_ => ?_)
          generalize wc.drew = w0d at hB hHeld ⊢
          refine take_ (i := 0) (N := some 158) (v := ?_) (a' := ?_) #[true, false, false, false, false, false, false, false, false, false, false, false, false, false, false, false, false, false, false] rfl rfl (take_of HT_.out (by kernel_rfl)) (fun _ _ _ h => h) (Or.inl ⟨by first | rfl | (go_simp; done), ?_⟩) hHeld ?_ ?_
          rotate_left
          · rintro w' ⟨s0, s1⟩
            go_simp
            try (with_reducible rfl)
          rotate_left
          · simp only [Act.put, List.setIfInBounds_toArray, List.set_cons_zero, List.set_cons_succ]
            rfl
          refine take_ (i := 1) (N := some 159) (v := ?_) (a' := ?_) #[true, true, false, false, false, false, false, false, false, false, false, false, false, false, false, false, false, false, false] rfl rfl (take_of HT_.out (by kernel_rfl)) (fun _ _ _ h => h) (Or.inl ⟨by first | rfl | (go_simp; done), ?_⟩) hHeld ?_ ?_
          rotate_left
          · rintro w' ⟨s0, s1⟩
            go_simp
            try (with_reducible rfl)
          rotate_left
          · simp only [Act.put, List.setIfInBounds_toArray, List.set_cons_zero, List.set_cons_succ]
            rfl
          refine take_ (i := 2) (N := some 160) (v := ?_) (a' := ?_) #[true, true, true, false, false, false, false, false, false, false, false, false, false, false, false, false, false, false, false] rfl rfl (take_of HT_.out (by kernel_rfl)) (fun _ _ _ h => h) (Or.inl ⟨by first | rfl | (go_simp; done), ?_⟩) hHeld ?_ ?_
          rotate_left
          · rintro w' ⟨s0, s1⟩
            go_simp
            try (with_reducible rfl)
          rotate_left
          · simp only [Act.put, List.setIfInBounds_toArray, List.set_cons_zero, List.set_cons_succ]
            rfl
          refine take_ (i := 3) (N := some 161) (v := ?_) (a' := ?_) #[true, true, true, true, false, false, false, false, false, false, false, false, false, false, false, false, false, false, false] rfl rfl (take_of HT_.out (by kernel_rfl)) (fun _ _ _ h => h) (Or.inl ⟨by first | rfl | (go_simp; done), ?_⟩) hHeld ?_ ?_
          rotate_left
          · rintro w' ⟨s0, s1⟩
            go_simp
            try (with_reducible rfl)
          rotate_left
          · simp only [Act.put, List.setIfInBounds_toArray, List.set_cons_zero, List.set_cons_succ]
            rfl
          refine take_ (i := 4) (N := some 162) (v := ?_) (a' := ?_) #[true, true, true, true, true, false, false, false, false, false, false, false, false, false, false, false, false, false, false] rfl rfl (take_of HT_.out (by kernel_rfl)) (fun _ _ _ h => h) (Or.inl ⟨by first | rfl | (go_simp; done), ?_⟩) hHeld ?_ ?_
          rotate_left
          · rintro w' ⟨s0, s1⟩
            go_simp
            try (with_reducible rfl)
          rotate_left
          · simp only [Act.put, List.setIfInBounds_toArray, List.set_cons_zero, List.set_cons_succ]
            rfl
          refine take_ (i := 5) (N := some 163) (v := ?_) (a' := ?_) #[true, true, true, true, true, true, false, false, false, false, false, false, false, false, false, false, false, false, false] rfl rfl (take_of HT_.out (by kernel_rfl)) (fun _ _ _ h => h) (Or.inl ⟨by first | rfl | (go_simp; done), ?_⟩) hHeld ?_ ?_
          rotate_left
          · rintro w' ⟨s0, s1⟩
            go_simp
            try (with_reducible rfl)
          rotate_left
          · simp only [Act.put, List.setIfInBounds_toArray, List.set_cons_zero, List.set_cons_succ]
            rfl
          refine take_ (i := 6) (N := some 164) (v := ?_) (a' := ?_) #[true, true, true, true, true, true, true, false, false, false, false, false, false, false, false, false, false, false, false] rfl rfl (take_of HT_.out (by kernel_rfl)) (fun _ _ _ h => h) (Or.inl ⟨by first | rfl | (go_simp; done), ?_⟩) hHeld ?_ ?_
          rotate_left
          · rintro w' ⟨s0, s1⟩
            go_simp
            try (with_reducible rfl)
          rotate_left
          · simp only [Act.put, List.setIfInBounds_toArray, List.set_cons_zero, List.set_cons_succ]
            rfl
          refine take_ (i := 7) (N := some 165) (v := ?_) (a' := ?_) #[true, true, true, true, true, true, true, true, false, false, false, false, false, false, false, false, false, false, false] rfl rfl (take_of HT_.out (by kernel_rfl)) (fun _ _ _ h => h) (Or.inl ⟨by first | rfl | (go_simp; done), ?_⟩) hHeld ?_ ?_
          rotate_left
          · rintro w' ⟨s0, s1⟩
            go_simp
            try (with_reducible rfl)
          rotate_left
          · simp only [Act.put, List.setIfInBounds_toArray, List.set_cons_zero, List.set_cons_succ]
            rfl
          refine take_ (i := 8) (N := some 166) (v := ?_) (a' := ?_) #[true, true, true, true, true, true, true, true, true, false, false, false, false, false, false, false, false, false, false] rfl rfl (take_of HT_.out (by kernel_rfl)) (fun _ _ _ h => h) (Or.inl ⟨by first | rfl | (go_simp; done), ?_⟩) hHeld ?_ ?_
          rotate_left
          · rintro w' ⟨s0, s1⟩
            go_simp
            try (with_reducible rfl)
          rotate_left
          · simp only [Act.put, List.setIfInBounds_toArray, List.set_cons_zero, List.set_cons_succ]
            rfl
          refine take_ (i := 9) (N := some 167) (v := ?_) (a' := ?_) #[true, true, true, true, true, true, true, true, true, true, false, false, false, false, false, false, false, false, false] rfl rfl (take_of HT_.out (by kernel_rfl)) (fun _ _ _ h => h) (Or.inl ⟨by first | rfl | (go_simp; done), ?_⟩) hHeld ?_ ?_
          rotate_left
          · rintro w' ⟨s0, s1⟩
            go_simp
            try (with_reducible rfl)
          rotate_left
          · simp only [Act.put, List.setIfInBounds_toArray, List.set_cons_zero, List.set_cons_succ]
            rfl
          refine take_ (i := 10) (N := some 168) (v := undef) (a' := ?_) #[true, true, true, true, true, true, true, true, true, true, true, false, false, false, false, false, false, false, false] rfl rfl (take_of HT_.out (by kernel_rfl)) (fun _ _ _ h => h) (Or.inr ⟨by first | rfl | (go_simp; done), rfl⟩) hHeld ?_ ?_
          rotate_left
          · simp only [Act.put, List.setIfInBounds_toArray, List.set_cons_zero, List.set_cons_succ]
            rfl
          refine take_ (i := 11) (N := some 169) (v := undef) (a' := ?_) #[true, true, true, true, true, true, true, true, true, true, true, true, false, false, false, false, false, false, false] rfl rfl (take_of HT_.out (by kernel_rfl)) (fun _ _ _ h => h) (Or.inr ⟨by first | rfl | (go_simp; done), rfl⟩) hHeld ?_ ?_
          rotate_left
          · simp only [Act.put, List.setIfInBounds_toArray, List.set_cons_zero, List.set_cons_succ]
            rfl
          refine take_ (i := 12) (N := some 170) (v := undef) (a' := ?_) #[true, true, true, true, true, true, true, true, true, true, true, true, true, false, false, false, false, false, false] rfl rfl (take_of HT_.out (by kernel_rfl)) (fun _ _ _ h => h) (Or.inr ⟨by first | rfl | (go_simp; done), rfl⟩) hHeld ?_ ?_
          rotate_left
          · simp only [Act.put, List.setIfInBounds_toArray, List.set_cons_zero, List.set_cons_succ]
            rfl
          refine take_ (i := 13) (N := some 171) (v := undef) (a' := ?_) #[true, true, true, true, true, true, true, true, true, true, true, true, true, true, false, false, false, false, false] rfl rfl (take_of HT_.out (by kernel_rfl)) (fun _ _ _ h => h) (Or.inr ⟨by first | rfl | (go_simp; done), rfl⟩) hHeld ?_ ?_
          rotate_left
          · simp only [Act.put, List.setIfInBounds_toArray, List.set_cons_zero, List.set_cons_succ]
            rfl
          refine take_ (i := 14) (N := some 172) (v := undef) (a' := ?_) #[true, true, true, true, true, true, true, true, true, true, true, true, true, true, true, false, false, false, false] rfl rfl (take_of HT_.out (by kernel_rfl)) (fun _ _ _ h => h) (Or.inr ⟨by first | rfl | (go_simp; done), rfl⟩) hHeld ?_ ?_
          rotate_left
          · simp only [Act.put, List.setIfInBounds_toArray, List.set_cons_zero, List.set_cons_succ]
            rfl
          refine take_ (i := 15) (N := some 173) (v := undef) (a' := ?_) #[true, true, true, true, true, true, true, true, true, true, true, true, true, true, true, true, false, false, false] rfl rfl (take_of HT_.out (by kernel_rfl)) (fun _ _ _ h => h) (Or.inr ⟨by first | rfl | (go_simp; done), rfl⟩) hHeld ?_ ?_
          rotate_left
          · simp only [Act.put, List.setIfInBounds_toArray, List.set_cons_zero, List.set_cons_succ]
            rfl
          refine take_ (i := 16) (N := some 174) (v := undef) (a' := ?_) #[true, true, true, true, true, true, true, true, true, true, true, true, true, true, true, true, true, false, false] rfl rfl (take_of HT_.out (by kernel_rfl)) (fun _ _ _ h => h) (Or.inr ⟨by first | rfl | (go_simp; done), rfl⟩) hHeld ?_ ?_
          rotate_left
          · simp only [Act.put, List.setIfInBounds_toArray, List.set_cons_zero, List.set_cons_succ]
            rfl
          refine take_ (i := 17) (N := some 175) (v := ?_) (a' := ?_) #[true, true, true, true, true, true, true, true, true, true, true, true, true, true, true, true, true, true, false] rfl rfl (take_of HT_.out (by kernel_rfl)) (fun _ _ _ h => h) (Or.inl ⟨by first | rfl | (go_simp; done), ?_⟩) hHeld ?_ ?_
          rotate_left
          · rintro w' ⟨s0, s1⟩
            go_simp
            try (with_reducible rfl)
          rotate_left
          · simp only [Act.put, List.setIfInBounds_toArray, List.set_cons_zero, List.set_cons_succ]
            rfl
          refine take_ (i := 18) (N := some 10) (v := ?_) (a' := ?_) #[true, true, true, true, true, true, true, true, true, true, true, true, true, true, true, true, true, true, true] rfl rfl (take_of HT_.out (by kernel_rfl)) (fun _ _ _ h => h) (Or.inl ⟨by first | rfl | (go_simp; done), ?_⟩) hHeld ?_ ?_
          rotate_left
          · rintro w' ⟨s0, s1⟩
            go_simp
            try (with_reducible rfl)
          rotate_left
          · simp only [Act.put, List.setIfInBounds_toArray, List.set_cons_zero, List.set_cons_succ]
            rfl
          refine done_ (done_of HT_.out (by kernel_rfl)) ?_
          refine NoPanic.normal ?_
          go_wp2
          all_goals
            go_ret
            exact ⟨rfl, HPL.out.b.trans (hB.mono HPL.out.b.size)⟩
        · have q2 : decide ((mq : Int) ≤ frm) = false := decide_eq_false hfm
          have hwt := HWD.out.2 ⟨by omega, by omega⟩
          subst hwt
          have hs1 := HPL.out.s1 rfl
          have hpv := HPL.out.v
          have hrow := HPL.out.row
          have hdx := decs_slice hrow hpv
          have hp40 : p ≤ 40 := by
            have h2 := HPL.out.pn
            cases tape
            · exact Nat.le_trans h2 HTN.out.2
            · exact Nat.le_trans h2 HTN.out.1
          have hSl : S.length = p - wt := by rw [hs1.1, List.length_drop, hpv]
          have b3 : (0 : Int) ≤ (wt : Int) := by omega
          have b4 : (wt : Int) ≤ (p : Int) := by have := hs1.2; omega
          have b5 : (p : Int) ≤ (cX : Int) := by have := hdx.2; omega
          have b6 : wt ≤ p := hs1.2
          have HARE := Aside0.mk (fun (W : World) (hb : Below wc.heap.size wc W) => are_tail W w.heap.size w.heap.size An X4 p cn cX wt S V (pw_own_below HPL.out.n.seen.row hb) (pw_own_below HPL.out.row hb) hs1.1 hs1.2 hpv hp40)
          clear hf0 hfm hs1 hpv hrow hdx hp40 hSl
          refine wp_region_noPanic ?_
          refine start_ (n := 19) (S := (fun w' => w'.cell? ⟨zs, 0, none⟩ = some (.slice An S.length cn) ∧ w'.cell? ⟨zx, 4, none⟩ = some (.slice X4 p cX))) (ds := []) #[false, false, false, false, false, false, false, false, false, false, false, false, false, false, false, false, false, false, false] (by kernel_rfl) rfl rfl (by (try dsimp only); exact ⟨pw_cell_below hB z0, pw_cell_below hB x4⟩) (fun hHeld => ?_)
          refine with_tab plays24_tab (fun HT_ => ?_)
          generalize wc.drew = w0d at hB hHeld ⊢
          refine take_ (i := 0) (N := some 158) (v := ?_) (a' := ?_) #[true, false, false, false, false, false, false, false, false, false, false, false, false, false, false, false, false, false, false] rfl rfl (take_of HT_.out (by kernel_rfl)) (fun _ _ _ h => h) (Or.inl ⟨by first | rfl | (go_simp; done), ?_⟩) hHeld ?_ ?_
          rotate_left
          · rintro w' ⟨s0, s1⟩
            go_simp
            try (with_reducible rfl)
          rotate_left
          · simp only [Act.put, List.setIfInBounds_toArray, List.set_cons_zero, List.set_cons_succ]
            rfl
          refine take_ (i := 1) (N := some 159) (v := ?_) (a' := ?_) #[true, true, false, false, false, false, false, false, false, false, false, false, false, false, false, false, false, false, false] rfl rfl (take_of HT_.out (by kernel_rfl)) (fun _ _ _ h => h) (Or.inl ⟨by first | rfl | (go_simp; done), ?_⟩) hHeld ?_ ?_
          rotate_left
          · rintro w' ⟨s0, s1⟩
            go_simp
            try (with_reducible rfl)
          rotate_left
          · simp only [Act.put, List.setIfInBounds_toArray, List.set_cons_zero, List.set_cons_succ]
            rfl
          refine take_ (i := 2) (N := some 160) (v := ?_) (a' := ?_) #[true, true, true, false, false, false, false, false, false, false, false, false, false, false, false, false, false, false, false] rfl rfl (take_of HT_.out (by kernel_rfl)) (fun _ _ _ h => h) (Or.inl ⟨by first | rfl | (go_simp; done), ?_⟩) hHeld ?_ ?_
          rotate_left
          · rintro w' ⟨s0, s1⟩
            go_simp
            try (with_reducible rfl)
          rotate_left
          · simp only [Act.put, List.setIfInBounds_toArray, List.set_cons_zero, List.set_cons_succ]
            rfl
          refine take_ (i := 3) (N := some 161) (v := ?_) (a' := ?_) #[true, true, true, true, false, false, false, false, false, false, false, false, false, false, false, false, false, false, false] rfl rfl (take_of HT_.out (by kernel_rfl)) (fun _ _ _ h => h) (Or.inl ⟨by first | rfl | (go_simp; done), ?_⟩) hHeld ?_ ?_
          rotate_left
          · rintro w' ⟨s0, s1⟩
            go_simp
            try (with_reducible rfl)
          rotate_left
          · simp only [Act.put, List.setIfInBounds_toArray, List.set_cons_zero, List.set_cons_succ]
            rfl
          refine take_ (i := 4) (N := some 162) (v := ?_) (a' := ?_) #[true, true, true, true, true, false, false, false, false, false, false, false, false, false, false, false, false, false, false] rfl rfl (take_of HT_.out (by kernel_rfl)) (fun _ _ _ h => h) (Or.inl ⟨by first | rfl | (go_simp; done), ?_⟩) hHeld ?_ ?_
          rotate_left
          · rintro w' ⟨s0, s1⟩
            go_simp
            try (with_reducible rfl)
          rotate_left
          · simp only [Act.put, List.setIfInBounds_toArray, List.set_cons_zero, List.set_cons_succ]
            rfl
          refine take_ (i := 5) (N := some 163) (v := ?_) (a' := ?_) #[true, true, true, true, true, true, false, false, false, false, false, false, false, false, false, false, false, false, false] rfl rfl (take_of HT_.out (by kernel_rfl)) (fun _ _ _ h => h) (Or.inl ⟨by first | rfl | (go_simp; done), ?_⟩) hHeld ?_ ?_
          rotate_left
          · rintro w' ⟨s0, s1⟩
            go_simp
            try (with_reducible rfl)
          rotate_left
          · simp only [Act.put, List.setIfInBounds_toArray, List.set_cons_zero, List.set_cons_succ]
            rfl
          refine take_ (i := 6) (N := some 164) (v := ?_) (a' := ?_) #[true, true, true, true, true, true, true, false, false, false, false, false, false, false, false, false, false, false, false] rfl rfl (take_of HT_.out (by kernel_rfl)) (fun _ _ _ h => h) (Or.inl ⟨by first | rfl | (go_simp; done), ?_⟩) hHeld ?_ ?_
          rotate_left
          · rintro w' ⟨s0, s1⟩
            go_simp
            try (with_reducible rfl)
          rotate_left
          · simp only [Act.put, List.setIfInBounds_toArray, List.set_cons_zero, List.set_cons_succ]
            rfl
          refine take_ (i := 7) (N := some 165) (v := ?_) (a' := ?_) #[true, true, true, true, true, true, true, true, false, false, false, false, false, false, false, false, false, false, false] rfl rfl (take_of HT_.out (by kernel_rfl)) (fun _ _ _ h => h) (Or.inl ⟨by first | rfl | (go_simp; done), ?_⟩) hHeld ?_ ?_
          rotate_left
          · rintro w' ⟨s0, s1⟩
            go_simp
            try (with_reducible rfl)
          rotate_left
          · simp only [Act.put, List.setIfInBounds_toArray, List.set_cons_zero, List.set_cons_succ]
            rfl
          refine take_ (i := 8) (N := some 166) (v := ?_) (a' := ?_) #[true, true, true, true, true, true, true, true, true, false, false, false, false, false, false, false, false, false, false] rfl rfl (take_of HT_.out (by kernel_rfl)) (fun _ _ _ h => h) (Or.inl ⟨by first | rfl | (go_simp; done), ?_⟩) hHeld ?_ ?_
          rotate_left
          · rintro w' ⟨s0, s1⟩
            go_simp
            try (with_reducible rfl)
          rotate_left
          · simp only [Act.put, List.setIfInBounds_toArray, List.set_cons_zero, List.set_cons_succ]
            rfl
          refine take_ (i := 9) (N := some 167) (v := ?_) (a' := ?_) #[true, true, true, true, true, true, true, true, true, true, false, false, false, false, false, false, false, false, false] rfl rfl (take_of HT_.out (by kernel_rfl)) (fun _ _ _ h => h) (Or.inl ⟨by first | rfl | (go_simp; done), ?_⟩) hHeld ?_ ?_
          rotate_left
          · rintro w' ⟨s0, s1⟩
            go_simp
            try (with_reducible rfl)
          rotate_left
          · simp only [Act.put, List.setIfInBounds_toArray, List.set_cons_zero, List.set_cons_succ]
            rfl
          refine take_ (i := 10) (N := some 168) (v := ?_) (a' := ?_) #[true, true, true, true, true, true, true, true, true, true, true, false, false, false, false, false, false, false, false] rfl rfl (take_of HT_.out (by kernel_rfl)) (fun _ _ _ h => h) (Or.inl ⟨by first | rfl | (go_simp; done), ?_⟩) hHeld ?_ ?_
          rotate_left
          · rintro w' ⟨s0, s1⟩
            go_simp
            try (with_reducible rfl)
          rotate_left
          · simp only [Act.put, List.setIfInBounds_toArray, List.set_cons_zero, List.set_cons_succ]
            rfl
          refine take_ (i := 11) (N := some 169) (v := ?_) (a' := ?_) #[true, true, true, true, true, true, true, true, true, true, true, true, false, false, false, false, false, false, false] rfl rfl (take_of HT_.out (by kernel_rfl)) (fun _ _ _ h => h) (Or.inl ⟨by first | rfl | (go_simp; done), ?_⟩) hHeld ?_ ?_
          rotate_left
          · rintro w' ⟨s0, s1⟩
            go_simp
            try (with_reducible rfl)
          rotate_left
          · simp only [Act.put, List.setIfInBounds_toArray, List.set_cons_zero, List.set_cons_succ]
            rfl
          refine take_ (i := 12) (N := some 170) (v := ?_) (a' := ?_) #[true, true, true, true, true, true, true, true, true, true, true, true, true, false, false, false, false, false, false] rfl rfl (take_of HT_.out (by kernel_rfl)) (fun _ _ _ h => h) (Or.inl ⟨by first | rfl | (go_simp; done), ?_⟩) hHeld ?_ ?_
          rotate_left
          · rintro w' ⟨s0, s1⟩
            go_simp
            try (with_reducible rfl)
          rotate_left
          · simp only [Act.put, List.setIfInBounds_toArray, List.set_cons_zero, List.set_cons_succ]
            rfl
          refine take_ (i := 13) (N := some 171) (v := ?_) (a' := ?_) #[true, true, true, true, true, true, true, true, true, true, true, true, true, true, false, false, false, false, false] rfl rfl (take_of HT_.out (by kernel_rfl)) (fun _ _ _ h => h) (Or.inl ⟨by first | rfl | (go_simp; done), ?_⟩) hHeld ?_ ?_
          rotate_left
          · rintro w' ⟨s0, s1⟩
            go_simp
            try (with_reducible rfl)
          rotate_left
          · simp only [Act.put, List.setIfInBounds_toArray, List.set_cons_zero, List.set_cons_succ]
            rfl
          refine take_ (i := 14) (N := some 172) (v := ?_) (a' := ?_) #[true, true, true, true, true, true, true, true, true, true, true, true, true, true, true, false, false, false, false] rfl rfl (take_of HT_.out (by kernel_rfl)) (fun _ _ _ h => h) (Or.inl ⟨by first | rfl | (go_simp; done), ?_⟩) hHeld ?_ ?_
          rotate_left
          · rintro w' ⟨s0, s1⟩
            go_simp
            try (with_reducible rfl)
          rotate_left
          · simp only [Act.put, List.setIfInBounds_toArray, List.set_cons_zero, List.set_cons_succ]
            rfl
          refine one_ (i := 15) (N := some 173) #[true, true, true, true, true, true, true, true, true, true, true, true, true, true, true, true, false, false, false] rfl rfl (one_of HT_.out (by kernel_rfl)) (by decide) (fun K hK => ?_)
          go_simp
          (with_reducible refine (HARE.out _ hB).mono ?_)
          rintro e w' ⟨rfl, q, rfl⟩
          have hB2 := pw_below_drewN hB q
          clear hB
          have hB := hB2
          clear hB2
          refine hK.out _ _ (by (try dsimp only); exact ⟨pw_cell_below hB z0, pw_cell_below hB x4⟩) (fun hHeld2 => ?_)
          clear hK K hHeld
          have hHeld := hHeld2
          clear hHeld2
          try simp only [Act.put, List.setIfInBounds_toArray, List.set_cons_zero, List.set_cons_succ]
          refine take_ (i := 16) (N := some 174) (v := ?_) (a' := ?_) #[true, true, true, true, true, true, true, true, true, true, true, true, true, true, true, true, true, false, false] rfl rfl (take_of HT_.out (by kernel_rfl)) (fun _ _ _ h => h) (Or.inl ⟨by first | rfl | (go_simp; done), ?_⟩) hHeld ?_ ?_
          rotate_left
          · rintro w' ⟨s0, s1⟩
            go_simp
            try (with_reducible rfl)
          rotate_left
          · simp only [Act.put, List.setIfInBounds_toArray, List.set_cons_zero, List.set_cons_succ]
            rfl
          refine take_ (i := 17) (N := some 175) (v := ?_) (a' := ?_) #[true, true, true, true, true, true, true, true, true, true, true, true, true, true, true, true, true, true, false] rfl rfl (take_of HT_.out (by kernel_rfl)) (fun _ _ _ h => h) (Or.inl ⟨by first | rfl | (go_simp; done), ?_⟩) hHeld ?_ ?_
          rotate_left
          · rintro w' ⟨s0, s1⟩
            go_simp
            try (with_reducible rfl)
          rotate_left
          · simp only [Act.put, List.setIfInBounds_toArray, List.set_cons_zero, List.set_cons_succ]
            rfl
          refine take_ (i := 18) (N := some 10) (v := ?_) (a' := ?_) #[true, true, true, true, true, true, true, true, true, true, true, true, true, true, true, true, true, true, true] rfl rfl (take_of HT_.out (by kernel_rfl)) (fun _ _ _ h => h) (Or.inl ⟨by first | rfl | (go_simp; done), ?_⟩) hHeld ?_ ?_
          rotate_left
          · rintro w' ⟨s0, s1⟩
            go_simp
            try (with_reducible rfl)
          rotate_left
          · simp only [Act.put, List.setIfInBounds_toArray, List.set_cons_zero, List.set_cons_succ]
            rfl
          refine done_ (done_of HT_.out (by kernel_rfl)) ?_
          refine NoPanic.normal ?_
          go_wp2
          all_goals
            go_ret
            exact ⟨rfl, HPL.out.b.trans (hB.mono HPL.out.b.size)⟩
end Go.Proofs.Ythlllcmffgdcmab.Src

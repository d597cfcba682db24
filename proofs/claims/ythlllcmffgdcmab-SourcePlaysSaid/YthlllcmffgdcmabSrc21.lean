/- Decisions, and behind them numbers: the walk of SourceChains. -/
import Derived.Test.YthlllcmffgdcmabSrc20
import Derived.Outline
namespace Go.Proofs.Ythlllcmffgdcmab.Src
open Go.RowKit Go.Proofs.YthlllcmffgdcmabW.PrintWords Go.Proofs.YthlllcmffgdcmabW.PrintLast Go.Proofs.YthlllcmffgdcmabW.PrintMore
open Go.Proofs.Ythlllcmffgdcmab.PSourceChains (S57 k57)
attribute [local go_sem] max2_int min2_int max_two min_two
set_option linter.unusedVariables false
set_option linter.unusedSimpArgs false

theorem reads_take {w : World} {A : Option Addr} {xs : List Int} (h : ReadsInt w .u64 A xs.length xs) (n : Nat) (hn : n ≤ xs.length) : ReadsInt w .u64 A n (xs.take n) := by
  refine ⟨by rw [List.length_take]; omega, by have := h.2.1; omega, fun h0 => ?_⟩
  obtain ⟨ad, e, hc⟩ := h.2.2 (by omega)
  refine ⟨ad, e, fun j hj => ?_⟩
  rw [hc j (by omega)]
  congr 2
  simp [List.getD_eq_getElem?_getD, List.getElem?_take_of_lt hj]

section
variable {P : Program}
theorem wp_append_row {o : Oper} {a : Act} {K : Act → World → Prop} {Q : Exit → Act → World → Prop} (W : World) (s x : Operand) (t : TypeId)
    (ho : o.op = .call { callee := .builtin .append, args := #[s, x], argTypes := #[t, t] })
    (base : Nat) (e : TypeId) (i : TypeInfo) (z : Value) (size bytes : Nat) (ht : P.underlying t = some (.slice e)) (hi : P.info? e = some i) (hz : i.zero = some z)
    (hsize : i.size = size) (hby : i.bytes = bytes) (hzs : z.cells.size = size) (hsz : 0 < size)
    (v : Value) (n : Nat) (xs : List Value) (hs : a.eval s = v) (hown : W.ownsRow base e size v n xs)
    (b2 m : Nat) (u : Value) (ys : List Value) (hx : a.eval x = u) (hrow : W.ownsRow b2 e size u m ys) (h1 : ∀ y ∈ ys, y.oneCell' = true)
    (h63 : n + m ≤ maxLen) (hbytes : (n + m) * bytes ≤ 140737488355328) (hbase : base ≤ W.heap.size)
    (h : ∀ A c w1, w1.ownsRow base e size (.slice A (n + m) c) (n + m) (xs ++ ys) → W.grownBy w1 v.ownBlock → K (a.put o.dst (.slice A (n + m) c)) w1) : Oper.wp P o a W K Q := by
  have hrun : ∃ v1 w1, (Builtin.append_ #[t, t] o.type #[v, u]).run P W = .ok v1 w1 ∧ w1.ownsRow base e size v1 (n + m) (xs ++ ys) ∧ W.grownBy w1 v.ownBlock := by
    rcases hrow.2 with ⟨rfl, rfl⟩ | ⟨g, cap, cur, rfl, hb, hh, hc, hm, hcs, hct⟩
    · have hx0 : ys = [] := List.eq_nil_of_length_eq_zero (by simpa using hrow.1)
      subst hx0
      refine ⟨v, W, ?_, by simpa using hown, World.grownBy.refl W _⟩
      rcases hown.2 with ⟨rfl, rfl⟩ | ⟨g, cap, cur, rfl, hb, hh, hc, hm, hcs, hct⟩
      · simp [Builtin.append_, run_underlying ht, sizeOf, typeInfo, hi, Builtin.lenOf, Builtin.firstCells, storeCells]
      · simp [Builtin.append_, run_underlying ht, sizeOf, typeInfo, hi, Builtin.lenOf, Builtin.firstCells, storeCells, hc, hm]
    · have hnews : ∀ j y, ys[j]? = some y → W.cell? ((⟨g, 0, none⟩ : Addr).add j) = some y := fun j y hj => by
        have hadd : (⟨g, 0, none⟩ : Addr).add j = ⟨g, j, none⟩ := by unfold Addr.add; split <;> simp_all
        rw [hadd, cell_of_row W g j cur e (0, 0) hh]
        have hjl : j < m * size := by
          rcases Nat.lt_or_ge j (m * size) with h | h
          · exact h
          · rw [List.getElem?_eq_none (by rw [hrow.1]; exact h)] at hj; cases hj
        rw [← hct, List.getElem?_take_of_lt hjl, Array.getElem?_toList] at hj
        exact hj
      obtain ⟨v1, w1, hr, h2, h3, _⟩ := run_append_own_at (P := P) W base t o.type e i z size bytes ht hi hz hsize hby hzs hsz _ n xs hown ⟨g, 0, none⟩ m cap ys hrow.1 hnews h1 h63 hbytes hbase
      exact ⟨v1, w1, hr, h2, h3⟩
  obtain ⟨v1, w1, hr, hown1, hg⟩ := hrun
  obtain ⟨A, c, rfl⟩ := own_slice hown1
  unfold Oper.wp execOp
  simp only [ho, resolve, invoke, builtin, Sem.run_bind, Sem.run_pure, Result.andThen_ok, List.map_toArray, List.map_cons, List.map_nil, hs, hx, hr]
  exact h A c w1 hown1 hg
end
def chains16_T : Bool × List (List Nat × List Nat) := (true, [([], []), ([], []), ([0, 1], [0, 1]), ([2], [2]), ([3], [3]), ([3], [3]), ([4, 5, 3], [3, 4, 5]), ([3, 6], [3, 6]), ([7, 3], [7]), ([8], [8]), ([9, 8, 8], [8, 9]), ([8], [8]), ([11, 8], [8, 11]), ([12, 8], [8, 12]), ([8], [8]), ([14, 8], [8, 14]), ([15, 8], [8, 15]), ([13, 16, 8], [8, 13, 16]), ([10, 17, 8], [8, 10, 17]), ([8, 18], [8, 18]), ([19, 10], [19]), ([20], [20]), ([21, 20, 20], [20, 21]), ([20], [20]), ([20], [20]), ([24, 20], [20, 24]), ([23, 25, 22, 20], [20, 23, 25]), ([20], [20]), ([27, 20], [20, 27]), ([26, 28, 26, 20], [20, 26, 28]), ([22, 29, 29, 20], [20, 22, 29]), ([30, 20], [20, 30]), ([20, 31], [20, 31]), ([32, 30], [32]), ([33], [33]), ([34, 33], [33, 34]), ([35, 33, 33], [33, 35]), ([36], [36]), ([37, 36], [36, 37]), ([36], [36]), ([39, 36], [36, 39]), ([40, 36], [36, 40]), ([38, 41, 36], [36, 38, 41]), ([36, 42, 33], [33, 36, 42]), ([33, 43], [33, 43])])
theorem chains16_tab : rtab .any (opsOf Try.f7 16) = chains16_T := by kernel_rfl

theorem decs_slice {w : World} {B n c : Nat} {e : TypeId} {A : Option Addr} {T : List (Int × Int)} (h : w.ownsRow B e 2 (.slice A n c) n (recs T)) (hn : T.length = n) : Decs w A T ∧ n ≤ c := by
  obtain ⟨A', c', he, hc, _, hd⟩ := decs_own h hn
  injection he with e1 _ e2
  subst e1; subst e2
  exact ⟨hd, hc⟩
theorem are_own {w : World} {B B' n c c' : Nat} {A A' : Option Addr} {T T1 T2 : List (Int × Int)} (h : w.ownsRow B 25 2 (.slice A n c) n (recs T)) (h' : w.ownsRow B' 57 2 (.slice A' n c') n (recs T1 ++ recs T2)) (hT : T = T1 ++ T2 ∧ T.length = n) (hl : n ≤ 1000) : Calls Try.prog 30 #[.slice A n c, .slice A' n c'] w fun e w' => e = .returned (.int .i64 0) ∧ ∃ m, w' = w.drewN m := by
  have hr : recs T1 ++ recs T2 = recs T := by rw [hT.1]; simp [recs]
  rw [hr] at h'
  obtain ⟨h1, h2⟩ := decs_slice h hT.2
  obtain ⟨h3, h4⟩ := decs_slice h' hT.2
  exact are_calls w A A' n c c' T h1 h3 hT.2 h2 h4 hl
theorem kept_set5 (w : World) (z : Nat) (a b c d e : Value) : Kept w (set5 w z a b c d e) (fun k => k = z) :=
  ((((Kept.refl w (fun k => k = z)).setCell (p := ⟨z, 0, none⟩) (.inl rfl) a).setCell (p := ⟨z, 1, none⟩) (.inl rfl) b).setCell (p := ⟨z, 2, none⟩) (.inl rfl) c).setCell (p := ⟨z, 3, none⟩) (.inl rfl) d |>.setCell (p := ⟨z, 4, none⟩) (.inl rfl) e
theorem set5_50' {w : World} {n : Nat} {a b c d e a0 b0 c0 d0 e0 : Value} (h : w.heap[n]? = some (.cells #[a0, b0, c0, d0, e0] 50 (0, 0))) : (set5 w n a b c d e).heap[n]? = some (.cells #[a, b, c, d, e] 50 (0, 0)) := by
  have := blk_set (blk_set (blk_set (blk_set (blk_set h 0 a) 1 b) 2 c) 3 d) 4 e
  simpa [set5] using this
theorem Chs.kept {B : Nat} {w w' : World} {s o : Nat} {T : List (Int × Int)} {vt : Value} {N : List Int} {vn : Value} {j k : Nat} {Y : List (Int × Int)} {vs : Value} {z : Nat} {cs : Array Value} (h : Chs B w s o T vt N vn j k Y vs) (hz : w.heap[z]? = some (.cells cs 50 (0, 0))) (hk : Kept w w' (fun i => i = z)) : Chs B w' s o T vt N vn j k Y vs :=
  ⟨⟨h.chn.ge, blk_kept h.chn.blk hk (blk_ne h.chn.blk hz (by decide)), own_kept h.chn.rowT hk (fun i hi => by obtain ⟨cs', hc⟩ := own_typed h.chn.rowT i hi; exact blk_ne hc hz (by decide)), own_kept h.chn.rowN hk (fun i hi => by obtain ⟨cs', hc⟩ := own_typed h.chn.rowN i hi; exact blk_ne hc hz (by decide))⟩,
   ⟨h.src.ge, blk_kept h.src.blk hk (blk_ne h.src.blk hz (by decide)), own_kept h.src.row hk (fun i hi => by obtain ⟨cs', hc⟩ := own_typed h.src.row i hi; exact blk_ne hc hz (by decide))⟩, h.off⟩
theorem own57_kept {B n : Nat} {w w' : World} {v : Value} {xs : List Value} {z : Nat} {cs : Array Value} (h : w.ownsRow B 57 2 v n xs) (hz : w.heap[z]? = some (.cells cs 50 (0, 0))) (hk : Kept w w' (fun i => i = z)) : w'.ownsRow B 57 2 v n xs :=
  own_kept h hk (fun i hi => by obtain ⟨cs', hc⟩ := own_typed h i hi; exact blk_ne hc hz (by decide))
theorem DecT.kept {w w' : World} {A : Option Addr} {T : List (Int × Int)} {z : Nat} {cs : Array Value} (h : DecT w A T) (hz : w.heap[z]? = some (.cells cs 50 (0, 0))) (hk : Kept w w' (fun i => i = z)) : DecT w' A T := by
  have key : ∀ ad, A = some ad → 0 < T.length → ∃ cs', w.heap[ad.block]? = some (.cells cs' 57 (0, 0)) ∧ w'.heap[ad.block]? = some (.cells cs' 57 (0, 0)) := fun ad e hl => by
    obtain ⟨cs', hc⟩ := h.2 ad e hl
    exact ⟨cs', hc, blk_kept hc hk (blk_ne hc hz (by decide))⟩
  refine ⟨fun i hi => ?_, fun ad e hl => ?_⟩
  · obtain ⟨ad, e, h1, h2⟩ := h.1 i hi
    obtain ⟨cs', hc, hc'⟩ := key ad e (by omega)
    have hb := hc'.trans hc.symm
    exact ⟨ad, e, cell_same h1 (by rw [add_block]; exact hb), cell_same h2 (by rw [add_block]; exact hb)⟩
  · obtain ⟨cs', _, hc⟩ := key ad e hl
    exact ⟨cs', hc⟩
theorem Refs.setx {B : Nat} {w0 wr : World} {zx zy : Nat} {T : List (Int × Int)} {N : List Int} {j k : Nat} {Y : List (Int × Int)} {Ax : Option Addr} {cx : Nat} {vx : Value} {Ay : Option Addr} {cy : Nat} {vy : Value} (h : Refs B w0 wr zx zy T N j k Y Ax cx vx Ay cy vy) {j' cx' : Nat} {Ax' : Option Addr} {vx' : Value} (hd : DecT wr Ax' (T.drop j')) (hc : T.length - j' ≤ cx') (hr : wr.ownsRow B 57 2 vx' j' (recs (T.take j'))) :
    Refs B w0 (set5 wr zx (.slice none 0 0) (.slice Ax' (T.length - j') cx') (.bool true) (.bool false) vx') zx zy T N j' k Y Ax' cx' vx' Ay cy vy := by
  have hk := kept_set5 wr zx (.slice none 0 0) (.slice Ax' (T.length - j') cx') (.bool true) (.bool false) vx'
  exact ⟨set5_50' h.bx, blk_kept h.yb hk (Ne.symm h.ne), h.ne, h.gx, h.gy, own57_kept hr h.bx hk, own57_kept h.ry h.bx hk, hd.kept h.bx hk, hc, h.ccy, h.rn⟩
theorem Refs.sety {B : Nat} {w0 wr : World} {zx zy : Nat} {T : List (Int × Int)} {N : List Int} {j k : Nat} {Y : List (Int × Int)} {Ax : Option Addr} {cx : Nat} {vx : Value} {Ay : Option Addr} {cy : Nat} {vy : Value} (h : Refs B w0 wr zx zy T N j k Y Ax cx vx Ay cy vy) {k' cy' : Nat} {Y' : List (Int × Int)} {Ay' : Option Addr} {vy' : Value} (hd : ReadsInt w0 .u64 Ay' (N.length - k') (N.drop k')) (hc : N.length - k' ≤ cy') (hr : wr.ownsRow B 57 2 vy' k' (recs Y')) :
    Refs B w0 (set5 wr zy (.slice Ay' (N.length - k') cy') (.slice none 0 0) (.bool false) (.bool false) vy') zx zy T N j k' Y' Ax cx vx Ay' cy' vy' := by
  have hk := kept_set5 wr zy (.slice Ay' (N.length - k') cy') (.slice none 0 0) (.bool false) (.bool false) vy'
  exact ⟨blk_kept h.bx hk h.ne, set5_50' h.yb, h.ne, h.gx, h.gy, own57_kept h.rx h.yb hk, own57_kept hr h.yb hk, h.told.kept h.yb hk, h.ccx, hc, hd⟩

set_option maxHeartbeats 4000000 in
set_option maxRecDepth 100000 in
theorem chains_law (A0 A1 A2 : Option Addr) (c0 c1 c2 : Nat) (l : List S57) (xs : List Int) (qs : List (Int × Int)) (w : World) (h0 : Kd.C k57 w A0 l.length l) (hc0 : l.length ≤ c0) (h1 : ReadsInt w .u64 A1 xs.length xs) (hc1 : xs.length ≤ c1) (hp : ∀ x ∈ xs, 0 ≤ x ∧ x < 18446744073709551616) (h2 : Asks w A2 qs.length qs) :
    Calls Try.prog 7 #[.slice A0 l.length c0, .slice A1 xs.length c1, .slice A2 qs.length c2] w fun e w' => e = .returned (.bool true) ∧ Below w.heap.size w w' := by
  have HSM := Aside0.mk (fun W (hb : Below w.heap.size w W) => some_calls W A0 c0 l (Kd.C_below h0 hb) hc0)
  obtain ⟨nN, hnN, hnN1, hnN2⟩ : ∃ n : Nat, (if 40 < xs.length then (40 : Int) else (xs.length : Int)) = (n : Int) ∧ n ≤ 40 ∧ n ≤ xs.length := by
    refine ⟨min 40 xs.length, ?_, by omega, by omega⟩
    split <;> omega
  have hnN' : (if (40 : Int) < (xs.length : Int) then (40 : Int) else (xs.length : Int)) = (nN : Int) := by
    rw [← hnN]
    split <;> split <;> omega
  obtain ⟨N, hN⟩ : ∃ N, xs.take nN = N := ⟨_, rfl⟩
  have hNl : N.length = nN := by rw [← hN, List.length_take]; omega
  have HNN := Aside0.mk (show ReadsInt w .u64 A1 nN N ∧ N.length = nN ∧ nN ≤ 40 from ⟨by rw [← hN]; exact reads_take h1 nN hnN2, hNl, hnN1⟩)
  have HNP := Aside0.mk (show ∀ x ∈ N, 0 ≤ x ∧ x < 18446744073709551616 from fun x hx => hp x (by rw [← hN] at hx; exact List.mem_of_mem_take hx))
  have HQ := Aside0.mk h2
  have b0 : (0 : Int) ≤ (nN : Int) := by omega
  have b1 : (nN : Int) ≤ (c1 : Int) := by omega
  have HB1 := Aside0.mk (show nN ≤ c1 by omega)
  clear h0 hc0 h1 hp h2 hN hNl hc1 hnN1 hnN2
  go_enter Try.func7, Try.ntmps7
  go_upto_block 0 with (first
    | (go_at_call 15; (with_reducible refine (awake_calls w).mono ?_); rintro e w1 ⟨rfl, hb⟩; have HW1 := Aside0.mk hb; clear hb)
    | (go_at_call 25; (with_reducible refine (HSM.out w1 HW1.out).mono ?_); rintro e w2 ⟨At, nT, ct, T, rfl, ho, hl, h40, hmb, hb⟩; have HO2 := Aside0.mk ho; have HT := Aside0.mk (show T.length = nT ∧ nT ≤ 40 ∧ ∀ x ∈ T, MayBe x from ⟨hl, h40, hmb⟩); have HW2 := Aside0.mk (below_then HW1.out HW1.out.size hb); clear ho hl h40 hmb hb)
    | (go_at_call 31; (have hch := chain_calls _ nT _ T A1 c1 N w2 HO2.out HT.out.1 (by have := HT.out.2.1; omega) (by have h := HNN.out; rw [h.2.1]; exact h.1.below HW2.out) (by have h := HNN.out; omega)); rw [HNN.out.2.1] at hch; (with_reducible refine hch.mono ?_); rintro e w3 ⟨s, o, vt, vn, rfl, hch, hsr, hb⟩; have HC3 := Aside0.mk hch; have HS3 := Aside0.mk hsr; have HO3 := Aside0.mk (pw_own_below HO2.out hb); have HB3 := Aside0.mk hb; have HW3 := Aside0.mk (below_then HW2.out HW2.out.size hb); clear hch hsr hb)
    | (go_at_call 26; (with_reducible refine (told_calls w3 _ nT _ T HO3.out HT.out.1 (by have := HT.out.2.1; omega)).mono ?_); rintro e w4 ⟨Ax, cx, rfl, hot, hb⟩; have HD4 := Aside0.mk (DecT.own hot HT.out.1); have HC4 := Aside0.mk (HC3.out.below hb); have HS4 := Aside0.mk (HS3.out.below hb); have HW4 := Aside0.mk (below_then HW3.out HW3.out.size hb); clear hot hb))
  have HSZ4 := Aside0.mk HW4.out.size
  have hb5 := below_alloc (below_alloc (Below.refl w4.heap.size w4) (.cells #[.slice none 0 0, .slice Ax nT cx, .bool true, .bool false, .slice none 0 0] 50)) (.cells #[.slice A1 nN c1, .slice none 0 0, .bool false, .bool false, .slice none 0 0] 50)
  have hx5 := blk_alloc (blk_new w4 (.cells #[.slice none 0 0, .slice Ax nT cx, .bool true, .bool false, .slice none 0 0] 50)) (.cells #[.slice A1 nN c1, .slice none 0 0, .bool false, .bool false, .slice none 0 0] 50)
  have hy5 := blk_new (w4.alloc (.cells #[.slice none 0 0, .slice Ax nT cx, .bool true, .bool false, .slice none 0 0] 50)) (.cells #[.slice A1 nN c1, .slice none 0 0, .bool false, .bool false, .slice none 0 0] 50)
  rw [show (w4.alloc (.cells #[.slice none 0 0, .slice Ax nT cx, .bool true, .bool false, .slice none 0 0] 50)).heap.size = w4.heap.size + 1 by simp] at hy5
  have HX5 := Aside0.mk hx5
  have HY5 := Aside0.mk hy5
  have HB5 := Aside0.mk hb5
  clear hb5 hx5 hy5 hnN'
  change Code.wp _ _ _ _ ((w4.alloc (.cells #[.slice none 0 0, .slice Ax nT cx, .bool true, .bool false, .slice none 0 0] 50)).alloc (.cells #[.slice A1 nN c1, .slice none 0 0, .bool false, .bool false, .slice none 0 0] 50))
  generalize (w4.alloc (.cells #[.slice none 0 0, .slice Ax nT cx, .bool true, .bool false, .slice none 0 0] 50)).alloc (.cells #[.slice A1 nN c1, .slice none 0 0, .bool false, .bool false, .slice none 0 0] 50) = w5 at HX5 HY5 HB5 ⊢
  have HW5 := Aside0.mk (below_then HW4.out HW4.out.size HB5.out)
  have HCH5 := Aside0.mk (show Chs w.heap.size w5 s o T vt N vn 0 0 [] (.slice none 0 0) from ⟨(HC4.out.below HB5.out).lower HW2.out.size, (HS4.out.below HB5.out).lower HW2.out.size, fun i _ h => by simp [Value.ownBlock] at h⟩)
  have HRF5 := Aside0.mk (show Refs w.heap.size w w5 w4.heap.size (w4.heap.size + 1) T N 0 0 [] Ax cx (.slice none 0 0) A1 c1 (.slice none 0 0) from
    ⟨by rw [Nat.sub_zero, HT.out.1]; exact HX5.out, by rw [Nat.sub_zero, HNN.out.2.1]; exact HY5.out, by omega, HW4.out.size, Nat.le_trans HW4.out.size (Nat.le_succ _), own_nil _ _ _ _, own_nil _ _ _ _, HD4.out.1.still (Still50.of_below HB5.out), by rw [Nat.sub_zero, HT.out.1]; exact HD4.out.2, by rw [Nat.sub_zero, HNN.out.2.1]; exact HB1.out, by rw [Nat.sub_zero, HNN.out.2.1, List.drop_zero]; exact HNN.out.1⟩)
  have hn1 : w4.heap.size + 1 = w4.heap.size + 1 := rfl
  obtain ⟨zx, hzx⟩ : ∃ z, w4.heap.size = z := ⟨_, rfl⟩
  rw [hzx] at HRF5 ⊢
  obtain ⟨zy, hzy⟩ : ∃ z, zx + 1 = z := ⟨_, rfl⟩
  rw [hzy] at HRF5 ⊢
  have HOB := Aside0.mk HCH5.out.chn.ge
  clear hn1 hzx hzy HX5 HY5 HB5 HD4 HC4 HS4 HO2 HO3 HB3 HW1 HW2 HW3 HW4 HSZ4
  go_cut [] (fun wx => Below w.heap.size w wx)
  case first =>
    go_wp2
    go_loopw [11] (fun v11 wr => ∃ (i j k : Nat) (Y : List (Int × Int)) (vs : Value) (Ax : Option Addr) (cx : Nat) (vx : Value) (Ay : Option Addr) (cy : Nat) (vy : Value), v11 = .int .i64 i ∧ i ≤ 40 ∧ j ≤ T.length ∧ k ≤ N.length ∧ Y.length = k ∧ (k = 0 ∨ j = T.length) ∧ Chs w.heap.size wr s o T vt N vn j k Y vs ∧ Refs w.heap.size w wr zx zy T N j k Y Ax cx vx Ay cy vy ∧ Below w.heap.size w wr) (fun v _ => 40 - (intOf v).toNat)
    case atStart => exact ⟨0, 0, 0, [], _, _, _, _, _, _, _, rfl, by omega, by omega, by omega, rfl, .inl rfl, HCH5.out, HRF5.out, HW5.out⟩
    case round =>
      clear HCH5 HRF5 HW5
      obtain ⟨i, j, k, Y, vs, Ax, cx, vx, Ay, cy, vy, rfl, hi, hj, hk, hY, hsq, hch, hrf, hbl⟩ := hrel
      have HCH := Aside0.mk hch
      have HRF := Aside0.mk hrf
      have HBL := Aside0.mk hbl
      have HJK := Aside0.mk (And.intro hj (And.intro hk (And.intro hY hsq)))
      clear hch hrf hbl hj hk hY hsq
      by_cases ha : i < qs.length
      case neg =>
        have q1 : decide ((i : Int) < (qs.length : Int)) = false := decide_eq_false (by omega)
        go_wp2
        go_meet
        exact HBL.out
      case pos =>
        have q1 : decide ((i : Int) < (qs.length : Int)) = true := decide_eq_true (by omega)
        by_cases h40 : i < 40
        case neg =>
          have q2 : decide ((i : Int) < 40) = false := decide_eq_false (by omega)
          go_wp2
          go_meet
          exact HBL.out
        case pos =>
          have q2 : decide ((i : Int) < 40) = true := decide_eq_true (by omega)
          obtain ⟨ad, e1, a0, a1⟩ := (HQ.out.below HBL.out).2 i ha
          subst e1
          rw [add_field ad (i * 2) 1 (by decide)] at a1
          obtain ⟨kk, hkk⟩ : ∃ kk, (qs.getD i (0, 0)).1 = kk := ⟨_, rfl⟩
          obtain ⟨nn, hnn⟩ : ∃ nn, (qs.getD i (0, 0)).2 = nn := ⟨_, rfl⟩
          rw [hkk] at a0
          rw [hnn] at a1
          have hmm := clamp_fit nn
          obtain ⟨v, en, u0, u1, u2, u3, u4, j', k', Y', hcd⟩ := chain_draw w.heap.size s o zx zy T vt N vn j k Y (fitK kk) (fitN nn) (clampN nn) (by rw [HT.out.1]; exact HT.out.2.1) (by rw [HNN.out.2.1]; exact HNN.out.2.2) HJK.out.1 HJK.out.2.1 HJK.out.2.2.1 HJK.out.2.2.2 rfl (by omega) HT.out.2.2 HNP.out HOB.out
          obtain ⟨k1, hk1⟩ : ∃ k1, fitK kk = k1 := ⟨_, rfl⟩
          obtain ⟨n1, hn1⟩ : ∃ n1, fitN nn = n1 := ⟨_, rfl⟩
          rw [hk1, hn1] at hcd
          have HCD := Aside0.mk hcd
          have HF := Aside0.mk (And.intro hk1 hn1)
          have HI := Aside0.mk (And.intro ha h40)
          clear hkk hnn hmm hcd hk1 hn1
          go_upto_region 13 with (first
            | (go_at_call 20; (with_reducible refine (fit_calls kk nn wr).mono ?_); rintro e w6 ⟨rfl, hb⟩; rw [HF.out.1, HF.out.2]; have HCH6 := Aside0.mk (HCH.out.below hb); have HRF6 := Aside0.mk (HRF.out.still (Still50.of_below hb)); have HBL6 := Aside0.mk (below_then HBL.out HBL.out.size hb); clear hb)
            | (go_at_call 21; (with_reducible refine (HCD.out.own w6 vs HBL6.out.size HCH6.out).mono ?_); rintro e w7 ⟨rfl, vs', hch, hst, hb⟩; unfold uV; have HCH7 := Aside0.mk (hch.below (below_alloc (Below.refl _ _) (.cells #[.int .i64 u0, .int .i64 u1, .int .i64 u2, .int .i64 u3, .int .u64 u4] 27))); have HRF7 := Aside0.mk (HRF6.out.still (hst.trans (Still50.of_below (below_alloc (Below.refl _ _) (.cells #[.int .i64 u0, .int .i64 u1, .int .i64 u2, .int .i64 u3, .int .u64 u4] 27))))); have HBL7 := Aside0.mk ((HBL6.out.trans hb).alloc (Nat.le_trans HBL6.out.size hb.size) (.cells #[.int .i64 u0, .int .i64 u1, .int .i64 u2, .int .i64 u3, .int .u64 u4] 27)); clear hch hst hb))
          have HU7 := Aside0.mk (blk_new w7 (.cells #[.int .i64 u0, .int .i64 u1, .int .i64 u2, .int .i64 u3, .int .u64 u4] 27))
          obtain ⟨z, hz⟩ : ∃ z, w7.heap.size = z := ⟨_, rfl⟩
          rw [hz] at HU7 ⊢
          clear hz
          change Code.wp _ _ _ _ (w7.alloc (.cells #[.int .i64 u0, .int .i64 u1, .int .i64 u2, .int .i64 u3, .int .u64 u4] 27))
          generalize w7.alloc (.cells #[.int .i64 u0, .int .i64 u1, .int .i64 u2, .int .i64 u3, .int .u64 u4] 27) = w8 at HCH7 HRF7 HBL7 HU7 ⊢
          have HRF8 := HRF7
          obtain ⟨rx, hrx⟩ : ∃ n, T.length - j = n := ⟨_, rfl⟩
          obtain ⟨ry, hry⟩ : ∃ n, N.length - k = n := ⟨_, rfl⟩
          have hbx := HRF7.out.bx
          have hby := HRF7.out.yb
          rw [hrx] at hbx
          rw [hry] at hby
          have p0 : w8.cell? ⟨zx, 0, none⟩ = some (.slice none 0 0) := (blk_cell hbx 0).trans rfl
          have p1 : w8.cell? ⟨zx, 1, none⟩ = some (.slice Ax rx cx) := (blk_cell hbx 1).trans rfl
          have p2 : w8.cell? ⟨zx, 2, none⟩ = some (.bool true) := (blk_cell hbx 2).trans rfl
          have p3 : w8.cell? ⟨zx, 3, none⟩ = some (.bool false) := (blk_cell hbx 3).trans rfl
          have p4 : w8.cell? ⟨zx, 4, none⟩ = some vx := (blk_cell hbx 4).trans rfl
          have o0 : w8.cell? ⟨zy, 0, none⟩ = some (.slice Ay ry cy) := (blk_cell hby 0).trans rfl
          have o1 : w8.cell? ⟨zy, 1, none⟩ = some (.slice none 0 0) := (blk_cell hby 1).trans rfl
          have o2 : w8.cell? ⟨zy, 2, none⟩ = some (.bool false) := (blk_cell hby 2).trans rfl
          have o3 : w8.cell? ⟨zy, 3, none⟩ = some (.bool false) := (blk_cell hby 3).trans rfl
          have o4 : w8.cell? ⟨zy, 4, none⟩ = some vy := (blk_cell hby 4).trans rfl
          clear hbx hby
          obtain ⟨b65, hb65⟩ : ∃ b, decide (0 < rx) = b := ⟨_, rfl⟩
          have hb65' : decide ((0 : Int) < (rx : Int)) = b65 := by
            rw [← hb65]
            by_cases h : 0 < rx
            · rw [decide_eq_true h, decide_eq_true (show (0 : Int) < (rx : Int) by omega)]
            · rw [decide_eq_false h, decide_eq_false (show ¬ (0 : Int) < (rx : Int) by omega)]
          have HB65 := Aside0.mk hb65
          go_upto_if 65 with (fail)
          clear hb65 hb65'
          go_cut [17, 18] (fun v17 v18 wx => v17 = .int .i64 v ∧ v18 = .int .i64 en ∧ ∃ (Ax : Option Addr) (cx : Nat) (vx : Value) (Ay : Option Addr) (cy : Nat) (vy : Value), Chs w.heap.size wx s o T vt N vn j' k' Y' vs' ∧ Refs w.heap.size w wx zx zy T N j' k' Y' Ax cx vx Ay cy vy ∧ wx.heap[z]? = some (.cells #[.int .i64 u0, .int .i64 u1, .int .i64 u2, .int .i64 u3, .int .u64 u4] 27 (0, 0)) ∧ Below w.heap.size w wx)
          case first =>
            by_cases hjT : j < T.length
            · obtain rfl : b65 = true := by rw [← HB65.out]; exact decide_eq_true (by omega)
              have hx29 := HCD.out.x hjT w8 Ax cx vx HRF7.out.told HRF7.out.ccx HRF7.out.rx HBL7.out.size
              obtain ⟨rx', hrx'⟩ : ∃ n, T.length - j' = n := ⟨_, rfl⟩
              rw [hrx, hrx'] at hx29
              have HX29 := Aside0.mk hx29
              have HXK := Aside0.mk (And.intro hrx' (HCD.out.xk hjT))
              clear hx29 hrx hry hrx' hjT
              go_wp2_with ((go_at_call 29; (with_reducible refine (HX29.out).mono ?_); rintro e w9 ⟨A9, c9, v9, rfl, hd, hc, hr, hb⟩; obtain ⟨Av, cv, rfl⟩ := own_slice hr; have H9 := Aside0.mk (And.intro hd (And.intro hc (And.intro hr hb))); have HR9 := Aside0.mk (HRF8.out.still (Still50.of_below hb)); have r0 : w9.cell? ⟨zx, 0, none⟩ = some (.slice none 0 0) := (blk_cell HR9.out.bx 0).trans rfl; have r1 : w9.cell? ⟨zx, 1, none⟩ = some (.slice Ax (T.length - j) cx) := (blk_cell HR9.out.bx 1).trans rfl; have r2 : w9.cell? ⟨zx, 2, none⟩ = some (.bool true) := (blk_cell HR9.out.bx 2).trans rfl; have r3 : w9.cell? ⟨zx, 3, none⟩ = some (.bool false) := (blk_cell HR9.out.bx 3).trans rfl; have r4 : w9.cell? ⟨zx, 4, none⟩ = some (vx) := (blk_cell HR9.out.bx 4).trans rfl; have g0 := blk_frozen HR9.out.bx 0; have g1 := blk_frozen HR9.out.bx 1; have g2 := blk_frozen HR9.out.bx 2; have g3 := blk_frozen HR9.out.bx 3; have g4 := blk_frozen HR9.out.bx 4; clear hd hc hr hb))
              go_meet
              obtain ⟨hk', rfl⟩ := HXK.out.2
              obtain rfl := HXK.out.1
              subst hk'
              refine ⟨rfl, rfl, A9, c9, _, Ay, cy, vy, (HCH7.out.below H9.out.2.2.2).kept HR9.out.bx (kept_set5 _ _ _ _ _ _ _), HR9.out.setx H9.out.1 H9.out.2.1 H9.out.2.2.1, blk_kept (blk_below HU7.out H9.out.2.2.2) (kept_set5 _ _ _ _ _ _ _) (blk_ne (blk_below HU7.out H9.out.2.2.2) HR9.out.bx (by decide)), set5_below (HBL7.out.trans (H9.out.2.2.2.mono HBL7.out.size)) HR9.out.gx⟩
            · obtain rfl : b65 = false := by rw [← HB65.out]; exact decide_eq_false (by omega)
              have hy29 := HCD.out.y hjT w w8 Ay cy vy HRF7.out.rn HBL7.out HRF7.out.ccy HRF7.out.ry HBL7.out.size
              obtain ⟨ry', hry'⟩ : ∃ n, N.length - k' = n := ⟨_, rfl⟩
              rw [hry, hry'] at hy29
              have HY29 := Aside0.mk hy29
              have HXK := Aside0.mk (And.intro hry' (HCD.out.yj hjT))
              clear hy29 hrx hry hry' hjT
              go_wp2_with ((go_at_call 29; (with_reducible refine (HY29.out).mono ?_); rintro e w9 ⟨A9, c9, v9, rfl, hd, hc, hr, hb⟩; obtain ⟨Av, cv, rfl⟩ := own_slice hr; have H9 := Aside0.mk (And.intro hd (And.intro hc (And.intro hr hb))); have HR9 := Aside0.mk (HRF8.out.still (Still50.of_below hb)); have r0 : w9.cell? ⟨zy, 0, none⟩ = some (.slice Ay (N.length - k) cy) := (blk_cell HR9.out.yb 0).trans rfl; have r1 : w9.cell? ⟨zy, 1, none⟩ = some (.slice none 0 0) := (blk_cell HR9.out.yb 1).trans rfl; have r2 : w9.cell? ⟨zy, 2, none⟩ = some (.bool false) := (blk_cell HR9.out.yb 2).trans rfl; have r3 : w9.cell? ⟨zy, 3, none⟩ = some (.bool false) := (blk_cell HR9.out.yb 3).trans rfl; have r4 : w9.cell? ⟨zy, 4, none⟩ = some (vy) := (blk_cell HR9.out.yb 4).trans rfl; have g0 := blk_frozen HR9.out.yb 0; have g1 := blk_frozen HR9.out.yb 1; have g2 := blk_frozen HR9.out.yb 2; have g3 := blk_frozen HR9.out.yb 3; have g4 := blk_frozen HR9.out.yb 4; clear hd hc hr hb))
              go_meet
              have hj' := HXK.out.2
              obtain rfl := HXK.out.1
              subst hj'
              refine ⟨rfl, rfl, Ax, cx, vx, A9, c9, _, (HCH7.out.below H9.out.2.2.2).kept HR9.out.yb (kept_set5 _ _ _ _ _ _ _), HR9.out.sety H9.out.1 H9.out.2.1 H9.out.2.2.1, blk_kept (blk_below HU7.out H9.out.2.2.2) (kept_set5 _ _ _ _ _ _ _) (blk_ne (blk_below HU7.out H9.out.2.2.2) HR9.out.yb (by decide)), set5_below (HBL7.out.trans (H9.out.2.2.2.mono HBL7.out.size)) HR9.out.gy⟩
          case rest =>
            obtain ⟨rfl, rfl, Ax, cx, vx, Ay, cy, vy, hch, hrf, hu, hbl⟩ := hcut
            clear p0 p1 p2 p3 p4 o0 o1 o2 o3 o4 HRF7 HRF8 HCH7 HBL7 HU7 HB65
            obtain ⟨X4, cX, rfl⟩ := own_slice hrf.rx
            obtain ⟨Y4, cY, rfl⟩ := own_slice hrf.ry
            have hjn := HCD.out.jn
            have hkn := HCD.out.kn
            have hyl := HCD.out.yl
            have hT40 : T.length ≤ 40 := by rw [HT.out.1]; exact HT.out.2.1
            have hN40 : N.length ≤ 40 := by rw [HNN.out.2.1]; exact HNN.out.2.2
            obtain ⟨a, ha'⟩ : ∃ n, T.length - j' = n := ⟨_, rfl⟩
            obtain ⟨b, hb'⟩ : ∃ n, N.length - k' = n := ⟨_, rfl⟩
            obtain ⟨lf, hlf⟩ : ∃ n : Int, (T.length : Int) - j' + ((N.length : Int) - k') = n := ⟨_, rfl⟩
            have hbx := hrf.bx
            have hby := hrf.yb
            rw [ha'] at hbx
            rw [hb'] at hby
            have c1 : wc.cell? ⟨zx, 1, none⟩ = some (.slice Ax a cx) := (blk_cell hbx 1).trans rfl
            have c4 : wc.cell? ⟨zx, 4, none⟩ = some (.slice X4 j' cX) := (blk_cell hbx 4).trans rfl
            have d0 : wc.cell? ⟨zy, 0, none⟩ = some (.slice Ay b cy) := (blk_cell hby 0).trans rfl
            have d4 : wc.cell? ⟨zy, 4, none⟩ = some (.slice Y4 k' cY) := (blk_cell hby 4).trans rfl
            have z0 : wc.cell? ⟨z, 0, none⟩ = some (.int .i64 u0) := (blk_cell hu 0).trans rfl
            have e7 : IntKind.i64.wrap ((a : Int) + (b : Int)) = lf := by rw [IntKind.wrap_i64]; omega
            have q10 : (v != v) = false := bne_self_eq_false v
            have q11 : (en != en) = false := bne_self_eq_false en
            have q12 : (lf != lf) = false := bne_self_eq_false lf
            have HRX := Aside0.mk hrf.rx
            have HRY := Aside0.mk hrf.ry
            have HCH9 := Aside0.mk hch
            have HRF9 := Aside0.mk hrf
            have HBL9 := Aside0.mk hbl
            have htl : (T.take j' ++ Y').length = j' + k' := by rw [List.length_append, List.length_take, hyl]; omega
            have HL2 := Aside0.mk (show j' ≤ 40 ∧ k' ≤ 40 ∧ (T.take j' ++ Y' = T.take j' ++ Y' ∧ (T.take j' ++ Y').length = j' + k') ∧ j' + k' ≤ 1000 from ⟨by omega, by omega, ⟨rfl, htl⟩, by omega⟩)
            have HLF := Aside0.mk (fun (W : World) (hb : Below wc.heap.size wc W) => left_calls w.heap.size s 66 o 65 vs' (j' + k') (recs (T.take j' ++ Y')) .nilFunc lf W (hch.below hb).src callFunc66 (crest_calls w.heap.size o T j' vt N k' vn lf W (hch.below hb).chn hjn (by omega) hkn (by omega) hlf))
            have HTK := Aside0.mk (fun (W : World) (hb : Below wc.heap.size wc W) => (taken_calls w.heap.size s 65 66 o vs' (j' + k') (T.take j' ++ Y') .nilFunc W (hch.below hb).src (by omega)).mono fun e w' ⟨v, h1, h2, h3⟩ => show ∃ A c, e = Ending.returned (.slice A (j' + k') c) ∧ w'.ownsRow W.heap.size 25 2 (.slice A (j' + k') c) (j' + k') (recs (T.take j' ++ Y')) ∧ Below W.heap.size W w' from by
              obtain ⟨A, c, rfl⟩ := own_slice h2
              exact ⟨A, c, h1, h2, h3⟩)
            obtain ⟨j0, hj0, hz0, hz1, hz2⟩ := info_parts info57
            have HJ := Aside0.mk (And.intro hj0 (And.intro hz0 (And.intro hz1 hz2)))
            have hen := HCD.out.en2
            have hsq := HCD.out.sq
            have HFIN := Aside0.mk (And.intro hjn (And.intro hkn (And.intro hyl hsq)))
            clear hj0 hz0 hz1 hz2 hch hrf hbl hbx hby hu ha' hb' hlf hjn hkn hyl hT40 hN40 htl hsq
            go_upto_region 16 with (fail)
            go_cut [126] (fun v126 w9 => v126 = .bool false ∧ Chs w.heap.size w9 s o T vt N vn j' k' Y' vs' ∧ Refs w.heap.size w w9 zx zy T N j' k' Y' Ax cx (.slice X4 j' cX) Ay cy (.slice Y4 k' cY) ∧ Below w.heap.size w w9)
            case first =>
              have hB : Below wc.heap.size wc wc.drew := (Below.refl _ _).drew
              by_cases h2 : en = 2
              · have hu0 : u0 = (j' : Int) := by
                  rcases hen with h | h | h
                  · exact absurd (h.symm.trans h2) (by decide)
                  · exact absurd (h.symm.trans h2) (by decide)
                  · exact h.2
                subst h2
                rw [hu0] at z0
                clear hen hu0
                have q13 : ((j' : Int) != (j' : Int)) = false := bne_self_eq_false _
                refine wp_region_noPanic ?_
                refine start_ (n := 45) (S := (fun w' => w'.cell? ⟨zx, 1, none⟩ = some (.slice Ax a cx) ∧ w'.cell? ⟨zx, 4, none⟩ = some (.slice X4 j' cX) ∧ w'.cell? ⟨zy, 0, none⟩ = some (.slice Ay b cy) ∧ w'.cell? ⟨zy, 4, none⟩ = some (.slice Y4 k' cY) ∧ w'.cell? ⟨z, 0, none⟩ = some (.int .i64 (j' : Int)))) (ds := []) #[false, false, false, false, false, false, false, false, false, false, false, false, false, false, false, false, false, false, false, false, false, false, false, false, false, false, false, false, false, false, false, false, false, false, false, false, false, false, false, false, false, false, false, false, false] (by kernel_rfl) rfl rfl (by (try dsimp only); exact ⟨pw_cell_below hB c1, pw_cell_below hB c4, pw_cell_below hB d0, pw_cell_below hB d4, pw_cell_below hB z0⟩) (fun hHeld => ?_)
                refine with_tab chains16_tab (fun HT_ => ?_)
                generalize wc.drew = w0d at hB hHeld ⊢
                refine take_ (i := 0) (N := some 82) (v := ?_) (a' := ?_) #[true, false, false, false, false, false, false, false, false, false, false, false, false, false, false, false, false, false, false, false, false, false, false, false, false, false, false, false, false, false, false, false, false, false, false, false, false, false, false, false, false, false, false, false, false] rfl rfl (take_of HT_.out (by kernel_rfl)) (fun _ _ _ h => h) (Or.inl ⟨by first | rfl | (go_simp; done), ?_⟩) hHeld ?_ ?_
                rotate_left
                · rintro w' ⟨s0, s1, s2, s3, s4⟩
                  go_simp
                  try (with_reducible rfl)
                rotate_left
                · simp only [Act.put, List.setIfInBounds_toArray, List.set_cons_zero, List.set_cons_succ]
                  rfl
                refine take_ (i := 1) (N := some 83) (v := ?_) (a' := ?_) #[true, true, false, false, false, false, false, false, false, false, false, false, false, false, false, false, false, false, false, false, false, false, false, false, false, false, false, false, false, false, false, false, false, false, false, false, false, false, false, false, false, false, false, false, false] rfl rfl (take_of HT_.out (by kernel_rfl)) (fun _ _ _ h => h) (Or.inl ⟨by first | rfl | (go_simp; done), ?_⟩) hHeld ?_ ?_
                rotate_left
                · rintro w' ⟨s0, s1, s2, s3, s4⟩
                  go_simp
                  try (with_reducible rfl)
                rotate_left
                · simp only [Act.put, List.setIfInBounds_toArray, List.set_cons_zero, List.set_cons_succ]
                  rfl
                refine take_ (i := 2) (N := some 84) (v := ?_) (a' := ?_) #[true, true, true, false, false, false, false, false, false, false, false, false, false, false, false, false, false, false, false, false, false, false, false, false, false, false, false, false, false, false, false, false, false, false, false, false, false, false, false, false, false, false, false, false, false] rfl rfl (take_of HT_.out (by kernel_rfl)) (fun _ _ _ h => h) (Or.inl ⟨by first | rfl | (go_simp; done), ?_⟩) hHeld ?_ ?_
                rotate_left
                · rintro w' ⟨s0, s1, s2, s3, s4⟩
                  go_simp
                  try (with_reducible rfl)
                rotate_left
                · simp only [Act.put, List.setIfInBounds_toArray, List.set_cons_zero, List.set_cons_succ]
                  rfl
                refine take_ (i := 3) (N := some 85) (v := ?_) (a' := ?_) #[true, true, true, true, false, false, false, false, false, false, false, false, false, false, false, false, false, false, false, false, false, false, false, false, false, false, false, false, false, false, false, false, false, false, false, false, false, false, false, false, false, false, false, false, false] rfl rfl (take_of HT_.out (by kernel_rfl)) (fun _ _ _ h => h) (Or.inl ⟨by first | rfl | (go_simp; done), ?_⟩) hHeld ?_ ?_
                rotate_left
                · rintro w' ⟨s0, s1, s2, s3, s4⟩
                  go_simp
                  try (with_reducible rfl)
                rotate_left
                · simp only [Act.put, List.setIfInBounds_toArray, List.set_cons_zero, List.set_cons_succ]
                  rfl
                refine take_ (i := 4) (N := some 86) (v := ?_) (a' := ?_) #[true, true, true, true, true, false, false, false, false, false, false, false, false, false, false, false, false, false, false, false, false, false, false, false, false, false, false, false, false, false, false, false, false, false, false, false, false, false, false, false, false, false, false, false, false] rfl rfl (take_of HT_.out (by kernel_rfl)) (fun _ _ _ h => h) (Or.inl ⟨by first | rfl | (go_simp; done), ?_⟩) hHeld ?_ ?_
                rotate_left
                · rintro w' ⟨s0, s1, s2, s3, s4⟩
                  go_simp
                  try (with_reducible rfl)
                rotate_left
                · simp only [Act.put, List.setIfInBounds_toArray, List.set_cons_zero, List.set_cons_succ]
                  rfl
                refine take_ (i := 5) (N := some 87) (v := ?_) (a' := ?_) #[true, true, true, true, true, true, false, false, false, false, false, false, false, false, false, false, false, false, false, false, false, false, false, false, false, false, false, false, false, false, false, false, false, false, false, false, false, false, false, false, false, false, false, false, false] rfl rfl (take_of HT_.out (by kernel_rfl)) (fun _ _ _ h => h) (Or.inl ⟨by first | rfl | (go_simp; done), ?_⟩) hHeld ?_ ?_
                rotate_left
                · rintro w' ⟨s0, s1, s2, s3, s4⟩
                  go_simp
                  try (with_reducible rfl)
                rotate_left
                · simp only [Act.put, List.setIfInBounds_toArray, List.set_cons_zero, List.set_cons_succ]
                  rfl
                refine take_ (i := 6) (N := some 88) (v := ?_) (a' := ?_) #[true, true, true, true, true, true, true, false, false, false, false, false, false, false, false, false, false, false, false, false, false, false, false, false, false, false, false, false, false, false, false, false, false, false, false, false, false, false, false, false, false, false, false, false, false] rfl rfl (take_of HT_.out (by kernel_rfl)) (fun _ _ _ h => h) (Or.inl ⟨by first | rfl | (go_simp; done), ?_⟩) hHeld ?_ ?_
                rotate_left
                · rintro w' ⟨s0, s1, s2, s3, s4⟩
                  go_simp
                  try (with_reducible rfl)
                rotate_left
                · simp only [Act.put, List.setIfInBounds_toArray, List.set_cons_zero, List.set_cons_succ]
                  rfl
                refine take_ (i := 7) (N := some 89) (v := ?_) (a' := ?_) #[true, true, true, true, true, true, true, true, false, false, false, false, false, false, false, false, false, false, false, false, false, false, false, false, false, false, false, false, false, false, false, false, false, false, false, false, false, false, false, false, false, false, false, false, false] rfl rfl (take_of HT_.out (by kernel_rfl)) (fun _ _ _ h => h) (Or.inl ⟨by first | rfl | (go_simp; done), ?_⟩) hHeld ?_ ?_
                rotate_left
                · rintro w' ⟨s0, s1, s2, s3, s4⟩
                  go_simp
                  try (with_reducible rfl)
                rotate_left
                · simp only [Act.put, List.setIfInBounds_toArray, List.set_cons_zero, List.set_cons_succ]
                  rfl
                refine take_ (i := 8) (N := some 90) (v := ?_) (a' := ?_) #[true, true, true, true, true, true, true, true, true, false, false, false, false, false, false, false, false, false, false, false, false, false, false, false, false, false, false, false, false, false, false, false, false, false, false, false, false, false, false, false, false, false, false, false, false] rfl rfl (take_of HT_.out (by kernel_rfl)) (fun _ _ _ h => h) (Or.inl ⟨by first | rfl | (go_simp; done), ?_⟩) hHeld ?_ ?_
                rotate_left
                · rintro w' ⟨s0, s1, s2, s3, s4⟩
                  go_simp
                  try (with_reducible rfl)
                rotate_left
                · simp only [Act.put, List.setIfInBounds_toArray, List.set_cons_zero, List.set_cons_succ]
                  rfl
                refine take_ (i := 9) (N := some 91) (v := ?_) (a' := ?_) #[true, true, true, true, true, true, true, true, true, true, false, false, false, false, false, false, false, false, false, false, false, false, false, false, false, false, false, false, false, false, false, false, false, false, false, false, false, false, false, false, false, false, false, false, false] rfl rfl (take_of HT_.out (by kernel_rfl)) (fun _ _ _ h => h) (Or.inl ⟨by first | rfl | (go_simp; done), ?_⟩) hHeld ?_ ?_
                rotate_left
                · rintro w' ⟨s0, s1, s2, s3, s4⟩
                  go_simp
                  try (with_reducible rfl)
                rotate_left
                · simp only [Act.put, List.setIfInBounds_toArray, List.set_cons_zero, List.set_cons_succ]
                  rfl
                refine take_ (i := 11) (N := some 93) (v := ?_) (a' := ?_) #[true, true, true, true, true, true, true, true, true, true, false, true, false, false, false, false, false, false, false, false, false, false, false, false, false, false, false, false, false, false, false, false, false, false, false, false, false, false, false, false, false, false, false, false, false] rfl rfl (take_of HT_.out (by kernel_rfl)) (fun _ _ _ h => h) (Or.inl ⟨by first | rfl | (go_simp; done), ?_⟩) hHeld ?_ ?_
                rotate_left
                · rintro w' ⟨s0, s1, s2, s3, s4⟩
                  go_simp
                  try (with_reducible rfl)
                rotate_left
                · simp only [Act.put, List.setIfInBounds_toArray, List.set_cons_zero, List.set_cons_succ]
                  rfl
                refine take_ (i := 12) (N := some 94) (v := ?_) (a' := ?_) #[true, true, true, true, true, true, true, true, true, true, false, true, true, false, false, false, false, false, false, false, false, false, false, false, false, false, false, false, false, false, false, false, false, false, false, false, false, false, false, false, false, false, false, false, false] rfl rfl (take_of HT_.out (by kernel_rfl)) (fun _ _ _ h => h) (Or.inl ⟨by first | rfl | (go_simp; done), ?_⟩) hHeld ?_ ?_
                rotate_left
                · rintro w' ⟨s0, s1, s2, s3, s4⟩
                  go_simp
                  try (with_reducible rfl)
                rotate_left
                · simp only [Act.put, List.setIfInBounds_toArray, List.set_cons_zero, List.set_cons_succ]
                  rfl
                refine take_ (i := 13) (N := some 95) (v := ?_) (a' := ?_) #[true, true, true, true, true, true, true, true, true, true, false, true, true, true, false, false, false, false, false, false, false, false, false, false, false, false, false, false, false, false, false, false, false, false, false, false, false, false, false, false, false, false, false, false, false] rfl rfl (take_of HT_.out (by kernel_rfl)) (fun _ _ _ h => h) (Or.inl ⟨by first | rfl | (go_simp; done), ?_⟩) hHeld ?_ ?_
                rotate_left
                · rintro w' ⟨s0, s1, s2, s3, s4⟩
                  go_simp
                  try (with_reducible rfl)
                rotate_left
                · simp only [Act.put, List.setIfInBounds_toArray, List.set_cons_zero, List.set_cons_succ]
                  rfl
                refine take_ (i := 14) (N := some 96) (v := ?_) (a' := ?_) #[true, true, true, true, true, true, true, true, true, true, false, true, true, true, true, false, false, false, false, false, false, false, false, false, false, false, false, false, false, false, false, false, false, false, false, false, false, false, false, false, false, false, false, false, false] rfl rfl (take_of HT_.out (by kernel_rfl)) (fun _ _ _ h => h) (Or.inl ⟨by first | rfl | (go_simp; done), ?_⟩) hHeld ?_ ?_
                rotate_left
                · rintro w' ⟨s0, s1, s2, s3, s4⟩
                  go_simp
                  try (with_reducible rfl)
                rotate_left
                · simp only [Act.put, List.setIfInBounds_toArray, List.set_cons_zero, List.set_cons_succ]
                  rfl
                refine take_ (i := 15) (N := some 97) (v := ?_) (a' := ?_) #[true, true, true, true, true, true, true, true, true, true, false, true, true, true, true, true, false, false, false, false, false, false, false, false, false, false, false, false, false, false, false, false, false, false, false, false, false, false, false, false, false, false, false, false, false] rfl rfl (take_of HT_.out (by kernel_rfl)) (fun _ _ _ h => h) (Or.inl ⟨by first | rfl | (go_simp; done), ?_⟩) hHeld ?_ ?_
                rotate_left
                · rintro w' ⟨s0, s1, s2, s3, s4⟩
                  go_simp
                  try (with_reducible rfl)
                rotate_left
                · simp only [Act.put, List.setIfInBounds_toArray, List.set_cons_zero, List.set_cons_succ]
                  rfl
                refine take_ (i := 16) (N := some 98) (v := ?_) (a' := ?_) #[true, true, true, true, true, true, true, true, true, true, false, true, true, true, true, true, true, false, false, false, false, false, false, false, false, false, false, false, false, false, false, false, false, false, false, false, false, false, false, false, false, false, false, false, false] rfl rfl (take_of HT_.out (by kernel_rfl)) (fun _ _ _ h => h) (Or.inl ⟨by first | rfl | (go_simp; done), ?_⟩) hHeld ?_ ?_
                rotate_left
                · rintro w' ⟨s0, s1, s2, s3, s4⟩
                  go_simp
                  try (with_reducible rfl)
                rotate_left
                · simp only [Act.put, List.setIfInBounds_toArray, List.set_cons_zero, List.set_cons_succ]
                  rfl
                refine take_ (i := 17) (N := some 99) (v := ?_) (a' := ?_) #[true, true, true, true, true, true, true, true, true, true, false, true, true, true, true, true, true, true, false, false, false, false, false, false, false, false, false, false, false, false, false, false, false, false, false, false, false, false, false, false, false, false, false, false, false] rfl rfl (take_of HT_.out (by kernel_rfl)) (fun _ _ _ h => h) (Or.inl ⟨by first | rfl | (go_simp; done), ?_⟩) hHeld ?_ ?_
                rotate_left
                · rintro w' ⟨s0, s1, s2, s3, s4⟩
                  go_simp
                  try (with_reducible rfl)
                rotate_left
                · simp only [Act.put, List.setIfInBounds_toArray, List.set_cons_zero, List.set_cons_succ]
                  rfl
                refine one_ (i := 10) (N := some 92) #[true, true, true, true, true, true, true, true, true, true, true, true, true, true, true, true, true, true, false, false, false, false, false, false, false, false, false, false, false, false, false, false, false, false, false, false, false, false, false, false, false, false, false, false, false] rfl rfl (one_of HT_.out (by kernel_rfl)) (by decide) (fun K hK => ?_)
                go_simp
                (with_reducible refine (HLF.out _ hB).mono ?_)
                rintro e w' ⟨rfl, q, rfl⟩
                have hB2 := pw_below_drewN hB q
                clear hB
                have hB := hB2
                clear hB2
                generalize w0d.drewN q = wa at hB ⊢
                refine hK.out _ _ (by (try dsimp only); exact ⟨pw_cell_below hB c1, pw_cell_below hB c4, pw_cell_below hB d0, pw_cell_below hB d4, pw_cell_below hB z0⟩) (fun hHeld2 => ?_)
                clear hK K hHeld
                have hHeld := hHeld2
                clear hHeld2
                try simp only [Act.put, List.setIfInBounds_toArray, List.set_cons_zero, List.set_cons_succ]
                refine take_ (i := 18) (N := some 100) (v := ?_) (a' := ?_) #[true, true, true, true, true, true, true, true, true, true, true, true, true, true, true, true, true, true, true, false, false, false, false, false, false, false, false, false, false, false, false, false, false, false, false, false, false, false, false, false, false, false, false, false, false] rfl rfl (take_of HT_.out (by kernel_rfl)) (fun _ _ _ h => h) (Or.inl ⟨by first | rfl | (go_simp; done), ?_⟩) hHeld ?_ ?_
                rotate_left
                · rintro w' ⟨s0, s1, s2, s3, s4⟩
                  go_simp
                  try (with_reducible rfl)
                rotate_left
                · simp only [Act.put, List.setIfInBounds_toArray, List.set_cons_zero, List.set_cons_succ]
                  rfl
                refine take_ (i := 19) (N := some 101) (v := ?_) (a' := ?_) #[true, true, true, true, true, true, true, true, true, true, true, true, true, true, true, true, true, true, true, true, false, false, false, false, false, false, false, false, false, false, false, false, false, false, false, false, false, false, false, false, false, false, false, false, false] rfl rfl (take_of HT_.out (by kernel_rfl)) (fun _ _ _ h => h) (Or.inl ⟨by first | rfl | (go_simp; done), ?_⟩) hHeld ?_ ?_
                rotate_left
                · rintro w' ⟨s0, s1, s2, s3, s4⟩
                  go_simp
                  try (with_reducible rfl)
                rotate_left
                · simp only [Act.put, List.setIfInBounds_toArray, List.set_cons_zero, List.set_cons_succ]
                  rfl
                refine take_ (i := 20) (N := some 102) (v := ?_) (a' := ?_) #[true, true, true, true, true, true, true, true, true, true, true, true, true, true, true, true, true, true, true, true, true, false, false, false, false, false, false, false, false, false, false, false, false, false, false, false, false, false, false, false, false, false, false, false, false] rfl rfl (take_of HT_.out (by kernel_rfl)) (fun _ _ _ h => h) (Or.inl ⟨by first | rfl | (go_simp; done), ?_⟩) hHeld ?_ ?_
                rotate_left
                · rintro w' ⟨s0, s1, s2, s3, s4⟩
                  go_simp
                  try (with_reducible rfl)
                rotate_left
                · simp only [Act.put, List.setIfInBounds_toArray, List.set_cons_zero, List.set_cons_succ]
                  rfl
                refine take_ (i := 21) (N := some 103) (v := ?_) (a' := ?_) #[true, true, true, true, true, true, true, true, true, true, true, true, true, true, true, true, true, true, true, true, true, true, false, false, false, false, false, false, false, false, false, false, false, false, false, false, false, false, false, false, false, false, false, false, false] rfl rfl (take_of HT_.out (by kernel_rfl)) (fun _ _ _ h => h) (Or.inl ⟨by first | rfl | (go_simp; done), ?_⟩) hHeld ?_ ?_
                rotate_left
                · rintro w' ⟨s0, s1, s2, s3, s4⟩
                  go_simp
                  try (with_reducible rfl)
                rotate_left
                · simp only [Act.put, List.setIfInBounds_toArray, List.set_cons_zero, List.set_cons_succ]
                  rfl
                refine take_ (i := 24) (N := some 106) (v := ?_) (a' := ?_) #[true, true, true, true, true, true, true, true, true, true, true, true, true, true, true, true, true, true, true, true, true, true, false, false, true, false, false, false, false, false, false, false, false, false, false, false, false, false, false, false, false, false, false, false, false] rfl rfl (take_of HT_.out (by kernel_rfl)) (fun _ _ _ h => h) (Or.inl ⟨by first | rfl | (go_simp; done), ?_⟩) hHeld ?_ ?_
                rotate_left
                · rintro w' ⟨s0, s1, s2, s3, s4⟩
                  go_simp
                  try (with_reducible rfl)
                rotate_left
                · simp only [Act.put, List.setIfInBounds_toArray, List.set_cons_zero, List.set_cons_succ]
                  rfl
                refine take_ (i := 25) (N := some 107) (v := ?_) (a' := ?_) #[true, true, true, true, true, true, true, true, true, true, true, true, true, true, true, true, true, true, true, true, true, true, false, false, true, true, false, false, false, false, false, false, false, false, false, false, false, false, false, false, false, false, false, false, false] rfl rfl (take_of HT_.out (by kernel_rfl)) (fun _ _ _ h => h) (Or.inl ⟨by first | rfl | (go_simp; done), ?_⟩) hHeld ?_ ?_
                rotate_left
                · rintro w' ⟨s0, s1, s2, s3, s4⟩
                  go_simp
                  try (with_reducible rfl)
                rotate_left
                · simp only [Act.put, List.setIfInBounds_toArray, List.set_cons_zero, List.set_cons_succ]
                  rfl
                refine take_ (i := 27) (N := some 109) (v := ?_) (a' := ?_) #[true, true, true, true, true, true, true, true, true, true, true, true, true, true, true, true, true, true, true, true, true, true, false, false, true, true, false, true, false, false, false, false, false, false, false, false, false, false, false, false, false, false, false, false, false] rfl rfl (take_of HT_.out (by kernel_rfl)) (fun _ _ _ h => h) (Or.inl ⟨by first | rfl | (go_simp; done), ?_⟩) hHeld ?_ ?_
                rotate_left
                · rintro w' ⟨s0, s1, s2, s3, s4⟩
                  go_simp
                  try (with_reducible rfl)
                rotate_left
                · simp only [Act.put, List.setIfInBounds_toArray, List.set_cons_zero, List.set_cons_succ]
                  rfl
                refine take_ (i := 28) (N := some 110) (v := ?_) (a' := ?_) #[true, true, true, true, true, true, true, true, true, true, true, true, true, true, true, true, true, true, true, true, true, true, false, false, true, true, false, true, true, false, false, false, false, false, false, false, false, false, false, false, false, false, false, false, false] rfl rfl (take_of HT_.out (by kernel_rfl)) (fun _ _ _ h => h) (Or.inl ⟨by first | rfl | (go_simp; done), ?_⟩) hHeld ?_ ?_
                rotate_left
                · rintro w' ⟨s0, s1, s2, s3, s4⟩
                  go_simp
                  try (with_reducible rfl)
                rotate_left
                · simp only [Act.put, List.setIfInBounds_toArray, List.set_cons_zero, List.set_cons_succ]
                  rfl
                refine two_ (i := 22) (j := 23) (Ni := some 104) (Nj := some 105) #[true, true, true, true, true, true, true, true, true, true, true, true, true, true, true, true, true, true, true, true, true, true, true, false, true, true, false, true, true, false, false, false, false, false, false, false, false, false, false, false, false, false, false, false, false] #[true, true, true, true, true, true, true, true, true, true, true, true, true, true, true, true, true, true, true, true, true, true, false, true, true, true, false, true, true, false, false, false, false, false, false, false, false, false, false, false, false, false, false, false, false] rfl rfl rfl rfl (two_of HT_.out (by kernel_rfl)) (by decide) (by decide) (fun K hK => ?_) (fun K hK => ?_)
                · go_simp
                  (with_reducible refine (HTK.out _ hB).mono ?_)
                  rintro e wb ⟨A2, c2, rfl, ho, hb⟩
                  have HT2 := Aside0.mk ho
                  have hB2 := below_then hB hB.size hb
                  clear hB
                  have hB := hB2
                  clear hB2
                  clear ho hb
                  refine hK.out _ _ (by (try dsimp only); exact ⟨pw_cell_below hB c1, pw_cell_below hB c4, pw_cell_below hB d0, pw_cell_below hB d4, pw_cell_below hB z0⟩) (fun hHeld2 => ?_)
                  clear hK K hHeld
                  have hHeld := hHeld2
                  clear hHeld2
                  try simp only [Act.put, List.setIfInBounds_toArray, List.set_cons_zero, List.set_cons_succ]
                  refine one_ (i := 23) (N := some 105) #[true, true, true, true, true, true, true, true, true, true, true, true, true, true, true, true, true, true, true, true, true, true, true, true, true, true, false, true, true, false, false, false, false, false, false, false, false, false, false, false, false, false, false, false, false] rfl rfl (one_of HT_.out (by kernel_rfl)) (by decide) (fun K hK => ?_)
                  go_simp
                  have HE := Aside0.mk (own_empty wb wc.heap.size 57 2 hB.size)
                  have HT3 := Aside0.mk (HT2.out.alloc (.cells #[] 57))
                  clear HT2
                  have HT2 := HT3
                  have hB2 := hB.alloc hB.size (.cells #[] 57)
                  clear hB
                  have hB := hB2
                  clear hB2
                  generalize wb.heap.size = hh at HE ⊢
                  generalize wb.alloc (.cells #[] 57) = wd at hB HE HT2 ⊢
                  refine hK.out _ _ (by (try dsimp only); exact ⟨pw_cell_below hB c1, pw_cell_below hB c4, pw_cell_below hB d0, pw_cell_below hB d4, pw_cell_below hB z0⟩) (fun hHeld2 => ?_)
                  clear hK K hHeld
                  have hHeld := hHeld2
                  clear hHeld2
                  try simp only [Act.put, List.setIfInBounds_toArray, List.set_cons_zero, List.set_cons_succ]
                  refine one_ (i := 26) (N := some 108) #[true, true, true, true, true, true, true, true, true, true, true, true, true, true, true, true, true, true, true, true, true, true, true, true, true, true, true, true, true, false, false, false, false, false, false, false, false, false, false, false, false, false, false, false, false] rfl rfl (one_of HT_.out (by kernel_rfl)) (by decide) (fun K hK => ?_)
                  rw [if_pos (by (first | (go_simp; done) | simp [Region.wanted]))]
                  refine wp_append_row _ (.tmp 105) (.tmp 107) 47 (by rfl) wc.heap.size 57 j0 _ 2 16 Try.underlying47 HJ.out.1 HJ.out.2.1 HJ.out.2.2.1 HJ.out.2.2.2 rfl (by omega) _ 0 [] (by simp [Act.eval, Act.put]) HE.out w.heap.size j' (.slice X4 j' cX) (recs (T.take j')) (by simp [Act.eval, Act.put]) (pw_own_below HRX.out hB) (recs_one _) (by have := HL2.out.1; unfold maxLen; omega) (by have := HL2.out.1; omega) hB.size ?_
                  intro A5 c5 w5 ho hg
                  rw [Nat.zero_add, List.nil_append] at ho
                  rw [Nat.zero_add]
                  have HO5 := Aside0.mk ho
                  have HT5 := Aside0.mk (own_grown_other HT2.out HE.out (by decide) hg)
                  have hB2 := hB.grown hg hB.size (own_base HE.out)
                  clear hB
                  have hB := hB2
                  clear hB2
                  clear ho hg
                  refine hK.out _ _ (by (try dsimp only); exact ⟨pw_cell_below hB c1, pw_cell_below hB c4, pw_cell_below hB d0, pw_cell_below hB d4, pw_cell_below hB z0⟩) (fun hHeld2 => ?_)
                  clear hK K hHeld
                  have hHeld := hHeld2
                  clear hHeld2
                  try simp only [Act.put, List.setIfInBounds_toArray, List.set_cons_zero, List.set_cons_succ]
                  refine one_ (i := 29) (N := some 111) #[true, true, true, true, true, true, true, true, true, true, true, true, true, true, true, true, true, true, true, true, true, true, true, true, true, true, true, true, true, true, false, false, false, false, false, false, false, false, false, false, false, false, false, false, false] rfl rfl (one_of HT_.out (by kernel_rfl)) (by decide) (fun K hK => ?_)
                  rw [if_pos (by (first | (go_simp; done) | simp [Region.wanted]))]
                  refine wp_append_row _ (.tmp 108) (.tmp 110) 47 (by rfl) wc.heap.size 57 j0 _ 2 16 Try.underlying47 HJ.out.1 HJ.out.2.1 HJ.out.2.2.1 HJ.out.2.2.2 rfl (by omega) _ j' (recs (T.take j')) (by simp [Act.eval, Act.put]) HO5.out w.heap.size k' (.slice Y4 k' cY) (recs Y') (by simp [Act.eval, Act.put]) (pw_own_below HRY.out hB) (recs_one _) (by have := HL2.out; unfold maxLen; omega) (by have := HL2.out; omega) hB.size ?_
                  intro A6 c6 w6 ho hg
                  have HO6 := Aside0.mk ho
                  have HT6 := Aside0.mk (own_grown_other HT5.out HO5.out (by decide) hg)
                  have hB2 := hB.grown hg hB.size (own_base HO5.out)
                  clear hB
                  have hB := hB2
                  clear hB2
                  clear ho hg
                  refine hK.out _ _ (by (try dsimp only); exact ⟨pw_cell_below hB c1, pw_cell_below hB c4, pw_cell_below hB d0, pw_cell_below hB d4, pw_cell_below hB z0⟩) (fun hHeld2 => ?_)
                  clear hK K hHeld
                  have hHeld := hHeld2
                  clear hHeld2
                  try simp only [Act.put, List.setIfInBounds_toArray, List.set_cons_zero, List.set_cons_succ]
                  refine one_ (i := 30) (N := some 112) #[true, true, true, true, true, true, true, true, true, true, true, true, true, true, true, true, true, true, true, true, true, true, true, true, true, true, true, true, true, true, true, false, false, false, false, false, false, false, false, false, false, false, false, false, false] rfl rfl (one_of HT_.out (by kernel_rfl)) (by decide) (fun K hK => ?_)
                  go_simp
                  (with_reducible refine (are_own HT6.out HO6.out HL2.out.2.2.1 HL2.out.2.2.2).mono ?_)
                  rintro e w' ⟨rfl, q2, rfl⟩
                  have hB2 := pw_below_drewN hB q2
                  clear hB
                  have hB := hB2
                  clear hB2
                  refine hK.out _ _ (by (try dsimp only); exact ⟨pw_cell_below hB c1, pw_cell_below hB c4, pw_cell_below hB d0, pw_cell_below hB d4, pw_cell_below hB z0⟩) (fun hHeld2 => ?_)
                  clear hK K hHeld
                  have hHeld := hHeld2
                  clear hHeld2
                  try simp only [Act.put, List.setIfInBounds_toArray, List.set_cons_zero, List.set_cons_succ]
                  refine take_ (i := 31) (N := some 113) (v := ?_) (a' := ?_) #[true, true, true, true, true, true, true, true, true, true, true, true, true, true, true, true, true, true, true, true, true, true, true, true, true, true, true, true, true, true, true, true, false, false, false, false, false, false, false, false, false, false, false, false, false] rfl rfl (take_of HT_.out (by kernel_rfl)) (fun _ _ _ h => h) (Or.inl ⟨by first | rfl | (go_simp; done), ?_⟩) hHeld ?_ ?_
                  rotate_left
                  · rintro w' ⟨s0, s1, s2, s3, s4⟩
                    go_simp
                    try (with_reducible rfl)
                  rotate_left
                  · simp only [Act.put, List.setIfInBounds_toArray, List.set_cons_zero, List.set_cons_succ]
                    rfl
                  refine take_ (i := 32) (N := some 114) (v := ?_) (a' := ?_) #[true, true, true, true, true, true, true, true, true, true, true, true, true, true, true, true, true, true, true, true, true, true, true, true, true, true, true, true, true, true, true, true, true, false, false, false, false, false, false, false, false, false, false, false, false] rfl rfl (take_of HT_.out (by kernel_rfl)) (fun _ _ _ h => h) (Or.inl ⟨by first | rfl | (go_simp; done), ?_⟩) hHeld ?_ ?_
                  rotate_left
                  · rintro w' ⟨s0, s1, s2, s3, s4⟩
                    go_simp
                    try (with_reducible rfl)
                  rotate_left
                  · simp only [Act.put, List.setIfInBounds_toArray, List.set_cons_zero, List.set_cons_succ]
                    rfl
                  refine take_ (i := 33) (N := some 115) (v := ?_) (a' := ?_) #[true, true, true, true, true, true, true, true, true, true, true, true, true, true, true, true, true, true, true, true, true, true, true, true, true, true, true, true, true, true, true, true, true, true, false, false, false, false, false, false, false, false, false, false, false] rfl rfl (take_of HT_.out (by kernel_rfl)) (fun _ _ _ h => h) (Or.inl ⟨by first | rfl | (go_simp; done), ?_⟩) hHeld ?_ ?_
                  rotate_left
                  · rintro w' ⟨s0, s1, s2, s3, s4⟩
                    go_simp
                    try (with_reducible rfl)
                  rotate_left
                  · simp only [Act.put, List.setIfInBounds_toArray, List.set_cons_zero, List.set_cons_succ]
                    rfl
                  refine take_ (i := 34) (N := some 116) (v := ?_) (a' := ?_) #[true, true, true, true, true, true, true, true, true, true, true, true, true, true, true, true, true, true, true, true, true, true, true, true, true, true, true, true, true, true, true, true, true, true, true, false, false, false, false, false, false, false, false, false, false] rfl rfl (take_of HT_.out (by kernel_rfl)) (fun _ _ _ h => h) (Or.inl ⟨by first | rfl | (go_simp; done), ?_⟩) hHeld ?_ ?_
                  rotate_left
                  · rintro w' ⟨s0, s1, s2, s3, s4⟩
                    go_simp
                    try (with_reducible rfl)
                  rotate_left
                  · simp only [Act.put, List.setIfInBounds_toArray, List.set_cons_zero, List.set_cons_succ]
                    rfl
                  refine take_ (i := 35) (N := some 117) (v := ?_) (a' := ?_) #[true, true, true, true, true, true, true, true, true, true, true, true, true, true, true, true, true, true, true, true, true, true, true, true, true, true, true, true, true, true, true, true, true, true, true, true, false, false, false, false, false, false, false, false, false] rfl rfl (take_of HT_.out (by kernel_rfl)) (fun _ _ _ h => h) (Or.inl ⟨by first | rfl | (go_simp; done), ?_⟩) hHeld ?_ ?_
                  rotate_left
                  · rintro w' ⟨s0, s1, s2, s3, s4⟩
                    go_simp
                    try (with_reducible rfl)
                  rotate_left
                  · simp only [Act.put, List.setIfInBounds_toArray, List.set_cons_zero, List.set_cons_succ]
                    rfl
                  refine take_ (i := 36) (N := some 118) (v := ?_) (a' := ?_) #[true, true, true, true, true, true, true, true, true, true, true, true, true, true, true, true, true, true, true, true, true, true, true, true, true, true, true, true, true, true, true, true, true, true, true, true, true, false, false, false, false, false, false, false, false] rfl rfl (take_of HT_.out (by kernel_rfl)) (fun _ _ _ h => h) (Or.inl ⟨by first | rfl | (go_simp; done), ?_⟩) hHeld ?_ ?_
                  rotate_left
                  · rintro w' ⟨s0, s1, s2, s3, s4⟩
                    go_simp
                    try (with_reducible rfl)
                  rotate_left
                  · simp only [Act.put, List.setIfInBounds_toArray, List.set_cons_zero, List.set_cons_succ]
                    rfl
                  refine take_ (i := 37) (N := some 119) (v := ?_) (a' := ?_) #[true, true, true, true, true, true, true, true, true, true, true, true, true, true, true, true, true, true, true, true, true, true, true, true, true, true, true, true, true, true, true, true, true, true, true, true, true, true, false, false, false, false, false, false, false] rfl rfl (take_of HT_.out (by kernel_rfl)) (fun _ _ _ h => h) (Or.inl ⟨by first | rfl | (go_simp; done), ?_⟩) hHeld ?_ ?_
                  rotate_left
                  · rintro w' ⟨s0, s1, s2, s3, s4⟩
                    go_simp
                    try (with_reducible rfl)
                  rotate_left
                  · simp only [Act.put, List.setIfInBounds_toArray, List.set_cons_zero, List.set_cons_succ]
                    rfl
                  refine take_ (i := 38) (N := some 120) (v := ?_) (a' := ?_) #[true, true, true, true, true, true, true, true, true, true, true, true, true, true, true, true, true, true, true, true, true, true, true, true, true, true, true, true, true, true, true, true, true, true, true, true, true, true, true, false, false, false, false, false, false] rfl rfl (take_of HT_.out (by kernel_rfl)) (fun _ _ _ h => h) (Or.inl ⟨by first | rfl | (go_simp; done), ?_⟩) hHeld ?_ ?_
                  rotate_left
                  · rintro w' ⟨s0, s1, s2, s3, s4⟩
                    go_simp
                    try (with_reducible rfl)
                  rotate_left
                  · simp only [Act.put, List.setIfInBounds_toArray, List.set_cons_zero, List.set_cons_succ]
                    rfl
                  refine take_ (i := 39) (N := some 121) (v := ?_) (a' := ?_) #[true, true, true, true, true, true, true, true, true, true, true, true, true, true, true, true, true, true, true, true, true, true, true, true, true, true, true, true, true, true, true, true, true, true, true, true, true, true, true, true, false, false, false, false, false] rfl rfl (take_of HT_.out (by kernel_rfl)) (fun _ _ _ h => h) (Or.inl ⟨by first | rfl | (go_simp; done), ?_⟩) hHeld ?_ ?_
                  rotate_left
                  · rintro w' ⟨s0, s1, s2, s3, s4⟩
                    go_simp
                    try (with_reducible rfl)
                  rotate_left
                  · simp only [Act.put, List.setIfInBounds_toArray, List.set_cons_zero, List.set_cons_succ]
                    rfl
                  refine take_ (i := 40) (N := some 122) (v := ?_) (a' := ?_) #[true, true, true, true, true, true, true, true, true, true, true, true, true, true, true, true, true, true, true, true, true, true, true, true, true, true, true, true, true, true, true, true, true, true, true, true, true, true, true, true, true, false, false, false, false] rfl rfl (take_of HT_.out (by kernel_rfl)) (fun _ _ _ h => h) (Or.inl ⟨by first | rfl | (go_simp; done), ?_⟩) hHeld ?_ ?_
                  rotate_left
                  · rintro w' ⟨s0, s1, s2, s3, s4⟩
                    go_simp
                    try (with_reducible rfl)
                  rotate_left
                  · simp only [Act.put, List.setIfInBounds_toArray, List.set_cons_zero, List.set_cons_succ]
                    rfl
                  refine take_ (i := 41) (N := some 123) (v := ?_) (a' := ?_) #[true, true, true, true, true, true, true, true, true, true, true, true, true, true, true, true, true, true, true, true, true, true, true, true, true, true, true, true, true, true, true, true, true, true, true, true, true, true, true, true, true, true, false, false, false] rfl rfl (take_of HT_.out (by kernel_rfl)) (fun _ _ _ h => h) (Or.inl ⟨by first | rfl | (go_simp; done), ?_⟩) hHeld ?_ ?_
                  rotate_left
                  · rintro w' ⟨s0, s1, s2, s3, s4⟩
                    go_simp
                    try (with_reducible rfl)
                  rotate_left
                  · simp only [Act.put, List.setIfInBounds_toArray, List.set_cons_zero, List.set_cons_succ]
                    rfl
                  refine take_ (i := 42) (N := some 124) (v := ?_) (a' := ?_) #[true, true, true, true, true, true, true, true, true, true, true, true, true, true, true, true, true, true, true, true, true, true, true, true, true, true, true, true, true, true, true, true, true, true, true, true, true, true, true, true, true, true, true, false, false] rfl rfl (take_of HT_.out (by kernel_rfl)) (fun _ _ _ h => h) (Or.inl ⟨by first | rfl | (go_simp; done), ?_⟩) hHeld ?_ ?_
                  rotate_left
                  · rintro w' ⟨s0, s1, s2, s3, s4⟩
                    go_simp
                    try (with_reducible rfl)
                  rotate_left
                  · simp only [Act.put, List.setIfInBounds_toArray, List.set_cons_zero, List.set_cons_succ]
                    rfl
                  refine take_ (i := 43) (N := some 125) (v := ?_) (a' := ?_) #[true, true, true, true, true, true, true, true, true, true, true, true, true, true, true, true, true, true, true, true, true, true, true, true, true, true, true, true, true, true, true, true, true, true, true, true, true, true, true, true, true, true, true, true, false] rfl rfl (take_of HT_.out (by kernel_rfl)) (fun _ _ _ h => h) (Or.inl ⟨by first | rfl | (go_simp; done), ?_⟩) hHeld ?_ ?_
                  rotate_left
                  · rintro w' ⟨s0, s1, s2, s3, s4⟩
                    go_simp
                    try (with_reducible rfl)
                  rotate_left
                  · simp only [Act.put, List.setIfInBounds_toArray, List.set_cons_zero, List.set_cons_succ]
                    rfl
                  refine take_ (i := 44) (N := some 126) (v := ?_) (a' := ?_) #[true, true, true, true, true, true, true, true, true, true, true, true, true, true, true, true, true, true, true, true, true, true, true, true, true, true, true, true, true, true, true, true, true, true, true, true, true, true, true, true, true, true, true, true, true] rfl rfl (take_of HT_.out (by kernel_rfl)) (fun _ _ _ h => h) (Or.inl ⟨by first | rfl | (go_simp; done), ?_⟩) hHeld ?_ ?_
                  rotate_left
                  · rintro w' ⟨s0, s1, s2, s3, s4⟩
                    go_simp
                    try (with_reducible rfl)
                  rotate_left
                  · simp only [Act.put, List.setIfInBounds_toArray, List.set_cons_zero, List.set_cons_succ]
                    rfl
                  refine done_ (done_of HT_.out (by kernel_rfl)) ?_
                  refine NoPanic.normal ?_
                  go_wp2
                  go_meet
                  exact ⟨rfl, HCH9.out.below hB, HRF9.out.still (Still50.of_below hB), below_then HBL9.out HBL9.out.size hB⟩
                · go_simp
                  have HE := Aside0.mk (own_empty wa wc.heap.size 57 2 hB.size)
                  have hB2 := hB.alloc hB.size (.cells #[] 57)
                  clear hB
                  have hB := hB2
                  clear hB2
                  generalize wa.heap.size = hh at HE ⊢
                  generalize wa.alloc (.cells #[] 57) = wd at hB HE ⊢
                  refine hK.out _ _ (by (try dsimp only); exact ⟨pw_cell_below hB c1, pw_cell_below hB c4, pw_cell_below hB d0, pw_cell_below hB d4, pw_cell_below hB z0⟩) (fun hHeld2 => ?_)
                  clear hK K hHeld
                  have hHeld := hHeld2
                  clear hHeld2
                  try simp only [Act.put, List.setIfInBounds_toArray, List.set_cons_zero, List.set_cons_succ]
                  refine one_ (i := 22) (N := some 104) #[true, true, true, true, true, true, true, true, true, true, true, true, true, true, true, true, true, true, true, true, true, true, true, true, true, true, false, true, true, false, false, false, false, false, false, false, false, false, false, false, false, false, false, false, false] rfl rfl (one_of HT_.out (by kernel_rfl)) (by decide) (fun K hK => ?_)
                  go_simp
                  (with_reducible refine (HTK.out _ hB).mono ?_)
                  rintro e wb ⟨A2, c2, rfl, ho, hb⟩
                  have HT2 := Aside0.mk ho
                  have HE2 := Aside0.mk (pw_own_below HE.out hb)
                  clear HE
                  have HE := HE2
                  have hB2 := below_then hB hB.size hb
                  clear hB
                  have hB := hB2
                  clear hB2
                  clear ho hb
                  refine hK.out _ _ (by (try dsimp only); exact ⟨pw_cell_below hB c1, pw_cell_below hB c4, pw_cell_below hB d0, pw_cell_below hB d4, pw_cell_below hB z0⟩) (fun hHeld2 => ?_)
                  clear hK K hHeld
                  have hHeld := hHeld2
                  clear hHeld2
                  try simp only [Act.put, List.setIfInBounds_toArray, List.set_cons_zero, List.set_cons_succ]
                  refine one_ (i := 26) (N := some 108) #[true, true, true, true, true, true, true, true, true, true, true, true, true, true, true, true, true, true, true, true, true, true, true, true, true, true, true, true, true, false, false, false, false, false, false, false, false, false, false, false, false, false, false, false, false] rfl rfl (one_of HT_.out (by kernel_rfl)) (by decide) (fun K hK => ?_)
                  rw [if_pos (by (first | (go_simp; done) | simp [Region.wanted]))]
                  refine wp_append_row _ (.tmp 105) (.tmp 107) 47 (by rfl) wc.heap.size 57 j0 _ 2 16 Try.underlying47 HJ.out.1 HJ.out.2.1 HJ.out.2.2.1 HJ.out.2.2.2 rfl (by omega) _ 0 [] (by simp [Act.eval, Act.put]) HE.out w.heap.size j' (.slice X4 j' cX) (recs (T.take j')) (by simp [Act.eval, Act.put]) (pw_own_below HRX.out hB) (recs_one _) (by have := HL2.out.1; unfold maxLen; omega) (by have := HL2.out.1; omega) hB.size ?_
                  intro A5 c5 w5 ho hg
                  rw [Nat.zero_add, List.nil_append] at ho
                  rw [Nat.zero_add]
                  have HO5 := Aside0.mk ho
                  have HT5 := Aside0.mk (own_grown_other HT2.out HE.out (by decide) hg)
                  have hB2 := hB.grown hg hB.size (own_base HE.out)
                  clear hB
                  have hB := hB2
                  clear hB2
                  clear ho hg
                  refine hK.out _ _ (by (try dsimp only); exact ⟨pw_cell_below hB c1, pw_cell_below hB c4, pw_cell_below hB d0, pw_cell_below hB d4, pw_cell_below hB z0⟩) (fun hHeld2 => ?_)
                  clear hK K hHeld
                  have hHeld := hHeld2
                  clear hHeld2
                  try simp only [Act.put, List.setIfInBounds_toArray, List.set_cons_zero, List.set_cons_succ]
                  refine one_ (i := 29) (N := some 111) #[true, true, true, true, true, true, true, true, true, true, true, true, true, true, true, true, true, true, true, true, true, true, true, true, true, true, true, true, true, true, false, false, false, false, false, false, false, false, false, false, false, false, false, false, false] rfl rfl (one_of HT_.out (by kernel_rfl)) (by decide) (fun K hK => ?_)
                  rw [if_pos (by (first | (go_simp; done) | simp [Region.wanted]))]
                  refine wp_append_row _ (.tmp 108) (.tmp 110) 47 (by rfl) wc.heap.size 57 j0 _ 2 16 Try.underlying47 HJ.out.1 HJ.out.2.1 HJ.out.2.2.1 HJ.out.2.2.2 rfl (by omega) _ j' (recs (T.take j')) (by simp [Act.eval, Act.put]) HO5.out w.heap.size k' (.slice Y4 k' cY) (recs Y') (by simp [Act.eval, Act.put]) (pw_own_below HRY.out hB) (recs_one _) (by have := HL2.out; unfold maxLen; omega) (by have := HL2.out; omega) hB.size ?_
                  intro A6 c6 w6 ho hg
                  have HO6 := Aside0.mk ho
                  have HT6 := Aside0.mk (own_grown_other HT5.out HO5.out (by decide) hg)
                  have hB2 := hB.grown hg hB.size (own_base HO5.out)
                  clear hB
                  have hB := hB2
                  clear hB2
                  clear ho hg
                  refine hK.out _ _ (by (try dsimp only); exact ⟨pw_cell_below hB c1, pw_cell_below hB c4, pw_cell_below hB d0, pw_cell_below hB d4, pw_cell_below hB z0⟩) (fun hHeld2 => ?_)
                  clear hK K hHeld
                  have hHeld := hHeld2
                  clear hHeld2
                  try simp only [Act.put, List.setIfInBounds_toArray, List.set_cons_zero, List.set_cons_succ]
                  refine one_ (i := 30) (N := some 112) #[true, true, true, true, true, true, true, true, true, true, true, true, true, true, true, true, true, true, true, true, true, true, true, true, true, true, true, true, true, true, true, false, false, false, false, false, false, false, false, false, false, false, false, false, false] rfl rfl (one_of HT_.out (by kernel_rfl)) (by decide) (fun K hK => ?_)
                  go_simp
                  (with_reducible refine (are_own HT6.out HO6.out HL2.out.2.2.1 HL2.out.2.2.2).mono ?_)
                  rintro e w' ⟨rfl, q2, rfl⟩
                  have hB2 := pw_below_drewN hB q2
                  clear hB
                  have hB := hB2
                  clear hB2
                  refine hK.out _ _ (by (try dsimp only); exact ⟨pw_cell_below hB c1, pw_cell_below hB c4, pw_cell_below hB d0, pw_cell_below hB d4, pw_cell_below hB z0⟩) (fun hHeld2 => ?_)
                  clear hK K hHeld
                  have hHeld := hHeld2
                  clear hHeld2
                  try simp only [Act.put, List.setIfInBounds_toArray, List.set_cons_zero, List.set_cons_succ]
                  refine take_ (i := 31) (N := some 113) (v := ?_) (a' := ?_) #[true, true, true, true, true, true, true, true, true, true, true, true, true, true, true, true, true, true, true, true, true, true, true, true, true, true, true, true, true, true, true, true, false, false, false, false, false, false, false, false, false, false, false, false, false] rfl rfl (take_of HT_.out (by kernel_rfl)) (fun _ _ _ h => h) (Or.inl ⟨by first | rfl | (go_simp; done), ?_⟩) hHeld ?_ ?_
                  rotate_left
                  · rintro w' ⟨s0, s1, s2, s3, s4⟩
                    go_simp
                    try (with_reducible rfl)
                  rotate_left
                  · simp only [Act.put, List.setIfInBounds_toArray, List.set_cons_zero, List.set_cons_succ]
                    rfl
                  refine take_ (i := 32) (N := some 114) (v := ?_) (a' := ?_) #[true, true, true, true, true, true, true, true, true, true, true, true, true, true, true, true, true, true, true, true, true, true, true, true, true, true, true, true, true, true, true, true, true, false, false, false, false, false, false, false, false, false, false, false, false] rfl rfl (take_of HT_.out (by kernel_rfl)) (fun _ _ _ h => h) (Or.inl ⟨by first | rfl | (go_simp; done), ?_⟩) hHeld ?_ ?_
                  rotate_left
                  · rintro w' ⟨s0, s1, s2, s3, s4⟩
                    go_simp
                    try (with_reducible rfl)
                  rotate_left
                  · simp only [Act.put, List.setIfInBounds_toArray, List.set_cons_zero, List.set_cons_succ]
                    rfl
                  refine take_ (i := 33) (N := some 115) (v := ?_) (a' := ?_) #[true, true, true, true, true, true, true, true, true, true, true, true, true, true, true, true, true, true, true, true, true, true, true, true, true, true, true, true, true, true, true, true, true, true, false, false, false, false, false, false, false, false, false, false, false] rfl rfl (take_of HT_.out (by kernel_rfl)) (fun _ _ _ h => h) (Or.inl ⟨by first | rfl | (go_simp; done), ?_⟩) hHeld ?_ ?_
                  rotate_left
                  · rintro w' ⟨s0, s1, s2, s3, s4⟩
                    go_simp
                    try (with_reducible rfl)
                  rotate_left
                  · simp only [Act.put, List.setIfInBounds_toArray, List.set_cons_zero, List.set_cons_succ]
                    rfl
                  refine take_ (i := 34) (N := some 116) (v := ?_) (a' := ?_) #[true, true, true, true, true, true, true, true, true, true, true, true, true, true, true, true, true, true, true, true, true, true, true, true, true, true, true, true, true, true, true, true, true, true, true, false, false, false, false, false, false, false, false, false, false] rfl rfl (take_of HT_.out (by kernel_rfl)) (fun _ _ _ h => h) (Or.inl ⟨by first | rfl | (go_simp; done), ?_⟩) hHeld ?_ ?_
                  rotate_left
                  · rintro w' ⟨s0, s1, s2, s3, s4⟩
                    go_simp
                    try (with_reducible rfl)
                  rotate_left
                  · simp only [Act.put, List.setIfInBounds_toArray, List.set_cons_zero, List.set_cons_succ]
                    rfl
                  refine take_ (i := 35) (N := some 117) (v := ?_) (a' := ?_) #[true, true, true, true, true, true, true, true, true, true, true, true, true, true, true, true, true, true, true, true, true, true, true, true, true, true, true, true, true, true, true, true, true, true, true, true, false, false, false, false, false, false, false, false, false] rfl rfl (take_of HT_.out (by kernel_rfl)) (fun _ _ _ h => h) (Or.inl ⟨by first | rfl | (go_simp; done), ?_⟩) hHeld ?_ ?_
                  rotate_left
                  · rintro w' ⟨s0, s1, s2, s3, s4⟩
                    go_simp
                    try (with_reducible rfl)
                  rotate_left
                  · simp only [Act.put, List.setIfInBounds_toArray, List.set_cons_zero, List.set_cons_succ]
                    rfl
                  refine take_ (i := 36) (N := some 118) (v := ?_) (a' := ?_) #[true, true, true, true, true, true, true, true, true, true, true, true, true, true, true, true, true, true, true, true, true, true, true, true, true, true, true, true, true, true, true, true, true, true, true, true, true, false, false, false, false, false, false, false, false] rfl rfl (take_of HT_.out (by kernel_rfl)) (fun _ _ _ h => h) (Or.inl ⟨by first | rfl | (go_simp; done), ?_⟩) hHeld ?_ ?_
                  rotate_left
                  · rintro w' ⟨s0, s1, s2, s3, s4⟩
                    go_simp
                    try (with_reducible rfl)
                  rotate_left
                  · simp only [Act.put, List.setIfInBounds_toArray, List.set_cons_zero, List.set_cons_succ]
                    rfl
                  refine take_ (i := 37) (N := some 119) (v := ?_) (a' := ?_) #[true, true, true, true, true, true, true, true, true, true, true, true, true, true, true, true, true, true, true, true, true, true, true, true, true, true, true, true, true, true, true, true, true, true, true, true, true, true, false, false, false, false, false, false, false] rfl rfl (take_of HT_.out (by kernel_rfl)) (fun _ _ _ h => h) (Or.inl ⟨by first | rfl | (go_simp; done), ?_⟩) hHeld ?_ ?_
                  rotate_left
                  · rintro w' ⟨s0, s1, s2, s3, s4⟩
                    go_simp
                    try (with_reducible rfl)
                  rotate_left
                  · simp only [Act.put, List.setIfInBounds_toArray, List.set_cons_zero, List.set_cons_succ]
                    rfl
                  refine take_ (i := 38) (N := some 120) (v := ?_) (a' := ?_) #[true, true, true, true, true, true, true, true, true, true, true, true, true, true, true, true, true, true, true, true, true, true, true, true, true, true, true, true, true, true, true, true, true, true, true, true, true, true, true, false, false, false, false, false, false] rfl rfl (take_of HT_.out (by kernel_rfl)) (fun _ _ _ h => h) (Or.inl ⟨by first | rfl | (go_simp; done), ?_⟩) hHeld ?_ ?_
                  rotate_left
                  · rintro w' ⟨s0, s1, s2, s3, s4⟩
                    go_simp
                    try (with_reducible rfl)
                  rotate_left
                  · simp only [Act.put, List.setIfInBounds_toArray, List.set_cons_zero, List.set_cons_succ]
                    rfl
                  refine take_ (i := 39) (N := some 121) (v := ?_) (a' := ?_) #[true, true, true, true, true, true, true, true, true, true, true, true, true, true, true, true, true, true, true, true, true, true, true, true, true, true, true, true, true, true, true, true, true, true, true, true, true, true, true, true, false, false, false, false, false] rfl rfl (take_of HT_.out (by kernel_rfl)) (fun _ _ _ h => h) (Or.inl ⟨by first | rfl | (go_simp; done), ?_⟩) hHeld ?_ ?_
                  rotate_left
                  · rintro w' ⟨s0, s1, s2, s3, s4⟩
                    go_simp
                    try (with_reducible rfl)
                  rotate_left
                  · simp only [Act.put, List.setIfInBounds_toArray, List.set_cons_zero, List.set_cons_succ]
                    rfl
                  refine take_ (i := 40) (N := some 122) (v := ?_) (a' := ?_) #[true, true, true, true, true, true, true, true, true, true, true, true, true, true, true, true, true, true, true, true, true, true, true, true, true, true, true, true, true, true, true, true, true, true, true, true, true, true, true, true, true, false, false, false, false] rfl rfl (take_of HT_.out (by kernel_rfl)) (fun _ _ _ h => h) (Or.inl ⟨by first | rfl | (go_simp; done), ?_⟩) hHeld ?_ ?_
                  rotate_left
                  · rintro w' ⟨s0, s1, s2, s3, s4⟩
                    go_simp
                    try (with_reducible rfl)
                  rotate_left
                  · simp only [Act.put, List.setIfInBounds_toArray, List.set_cons_zero, List.set_cons_succ]
                    rfl
                  refine take_ (i := 41) (N := some 123) (v := ?_) (a' := ?_) #[true, true, true, true, true, true, true, true, true, true, true, true, true, true, true, true, true, true, true, true, true, true, true, true, true, true, true, true, true, true, true, true, true, true, true, true, true, true, true, true, true, true, false, false, false] rfl rfl (take_of HT_.out (by kernel_rfl)) (fun _ _ _ h => h) (Or.inl ⟨by first | rfl | (go_simp; done), ?_⟩) hHeld ?_ ?_
                  rotate_left
                  · rintro w' ⟨s0, s1, s2, s3, s4⟩
                    go_simp
                    try (with_reducible rfl)
                  rotate_left
                  · simp only [Act.put, List.setIfInBounds_toArray, List.set_cons_zero, List.set_cons_succ]
                    rfl
                  refine take_ (i := 42) (N := some 124) (v := ?_) (a' := ?_) #[true, true, true, true, true, true, true, true, true, true, true, true, true, true, true, true, true, true, true, true, true, true, true, true, true, true, true, true, true, true, true, true, true, true, true, true, true, true, true, true, true, true, true, false, false] rfl rfl (take_of HT_.out (by kernel_rfl)) (fun _ _ _ h => h) (Or.inl ⟨by first | rfl | (go_simp; done), ?_⟩) hHeld ?_ ?_
                  rotate_left
                  · rintro w' ⟨s0, s1, s2, s3, s4⟩
                    go_simp
                    try (with_reducible rfl)
                  rotate_left
                  · simp only [Act.put, List.setIfInBounds_toArray, List.set_cons_zero, List.set_cons_succ]
                    rfl
                  refine take_ (i := 43) (N := some 125) (v := ?_) (a' := ?_) #[true, true, true, true, true, true, true, true, true, true, true, true, true, true, true, true, true, true, true, true, true, true, true, true, true, true, true, true, true, true, true, true, true, true, true, true, true, true, true, true, true, true, true, true, false] rfl rfl (take_of HT_.out (by kernel_rfl)) (fun _ _ _ h => h) (Or.inl ⟨by first | rfl | (go_simp; done), ?_⟩) hHeld ?_ ?_
                  rotate_left
                  · rintro w' ⟨s0, s1, s2, s3, s4⟩
                    go_simp
                    try (with_reducible rfl)
                  rotate_left
                  · simp only [Act.put, List.setIfInBounds_toArray, List.set_cons_zero, List.set_cons_succ]
                    rfl
                  refine take_ (i := 44) (N := some 126) (v := ?_) (a' := ?_) #[true, true, true, true, true, true, true, true, true, true, true, true, true, true, true, true, true, true, true, true, true, true, true, true, true, true, true, true, true, true, true, true, true, true, true, true, true, true, true, true, true, true, true, true, true] rfl rfl (take_of HT_.out (by kernel_rfl)) (fun _ _ _ h => h) (Or.inl ⟨by first | rfl | (go_simp; done), ?_⟩) hHeld ?_ ?_
                  rotate_left
                  · rintro w' ⟨s0, s1, s2, s3, s4⟩
                    go_simp
                    try (with_reducible rfl)
                  rotate_left
                  · simp only [Act.put, List.setIfInBounds_toArray, List.set_cons_zero, List.set_cons_succ]
                    rfl
                  refine done_ (done_of HT_.out (by kernel_rfl)) ?_
                  refine NoPanic.normal ?_
                  go_wp2
                  go_meet
                  exact ⟨rfl, HCH9.out.below hB, HRF9.out.still (Still50.of_below hB), below_then HBL9.out HBL9.out.size hB⟩
              · have q13 : (en == 2) = false := beq_eq_false_iff_ne.2 h2
                have q14 : (en = 2) = False := eq_false h2
                clear hen h2
                refine wp_region_noPanic ?_
                refine start_ (n := 45) (S := (fun w' => w'.cell? ⟨zx, 1, none⟩ = some (.slice Ax a cx) ∧ w'.cell? ⟨zx, 4, none⟩ = some (.slice X4 j' cX) ∧ w'.cell? ⟨zy, 0, none⟩ = some (.slice Ay b cy) ∧ w'.cell? ⟨zy, 4, none⟩ = some (.slice Y4 k' cY) ∧ w'.cell? ⟨z, 0, none⟩ = some (.int .i64 u0))) (ds := []) #[false, false, false, false, false, false, false, false, false, false, false, false, false, false, false, false, false, false, false, false, false, false, false, false, false, false, false, false, false, false, false, false, false, false, false, false, false, false, false, false, false, false, false, false, false] (by kernel_rfl) rfl rfl (by (try dsimp only); exact ⟨pw_cell_below hB c1, pw_cell_below hB c4, pw_cell_below hB d0, pw_cell_below hB d4, pw_cell_below hB z0⟩) (fun hHeld => ?_)
                refine with_tab chains16_tab (fun HT_ => ?_)
                generalize wc.drew = w0d at hB hHeld ⊢
                refine take_ (i := 0) (N := some 82) (v := ?_) (a' := ?_) #[true, false, false, false, false, false, false, false, false, false, false, false, false, false, false, false, false, false, false, false, false, false, false, false, false, false, false, false, false, false, false, false, false, false, false, false, false, false, false, false, false, false, false, false, false] rfl rfl (take_of HT_.out (by kernel_rfl)) (fun _ _ _ h => h) (Or.inl ⟨by first | rfl | (go_simp; done), ?_⟩) hHeld ?_ ?_
                rotate_left
                · rintro w' ⟨s0, s1, s2, s3, s4⟩
                  go_simp
                  try (with_reducible rfl)
                rotate_left
                · simp only [Act.put, List.setIfInBounds_toArray, List.set_cons_zero, List.set_cons_succ]
                  rfl
                refine take_ (i := 1) (N := some 83) (v := ?_) (a' := ?_) #[true, true, false, false, false, false, false, false, false, false, false, false, false, false, false, false, false, false, false, false, false, false, false, false, false, false, false, false, false, false, false, false, false, false, false, false, false, false, false, false, false, false, false, false, false] rfl rfl (take_of HT_.out (by kernel_rfl)) (fun _ _ _ h => h) (Or.inl ⟨by first | rfl | (go_simp; done), ?_⟩) hHeld ?_ ?_
                rotate_left
                · rintro w' ⟨s0, s1, s2, s3, s4⟩
                  go_simp
                  try (with_reducible rfl)
                rotate_left
                · simp only [Act.put, List.setIfInBounds_toArray, List.set_cons_zero, List.set_cons_succ]
                  rfl
                refine take_ (i := 2) (N := some 84) (v := ?_) (a' := ?_) #[true, true, true, false, false, false, false, false, false, false, false, false, false, false, false, false, false, false, false, false, false, false, false, false, false, false, false, false, false, false, false, false, false, false, false, false, false, false, false, false, false, false, false, false, false] rfl rfl (take_of HT_.out (by kernel_rfl)) (fun _ _ _ h => h) (Or.inl ⟨by first | rfl | (go_simp; done), ?_⟩) hHeld ?_ ?_
                rotate_left
                · rintro w' ⟨s0, s1, s2, s3, s4⟩
                  go_simp
                  try (with_reducible rfl)
                rotate_left
                · simp only [Act.put, List.setIfInBounds_toArray, List.set_cons_zero, List.set_cons_succ]
                  rfl
                refine take_ (i := 3) (N := some 85) (v := ?_) (a' := ?_) #[true, true, true, true, false, false, false, false, false, false, false, false, false, false, false, false, false, false, false, false, false, false, false, false, false, false, false, false, false, false, false, false, false, false, false, false, false, false, false, false, false, false, false, false, false] rfl rfl (take_of HT_.out (by kernel_rfl)) (fun _ _ _ h => h) (Or.inl ⟨by first | rfl | (go_simp; done), ?_⟩) hHeld ?_ ?_
                rotate_left
                · rintro w' ⟨s0, s1, s2, s3, s4⟩
                  go_simp
                  try (with_reducible rfl)
                rotate_left
                · simp only [Act.put, List.setIfInBounds_toArray, List.set_cons_zero, List.set_cons_succ]
                  rfl
                refine take_ (i := 4) (N := some 86) (v := ?_) (a' := ?_) #[true, true, true, true, true, false, false, false, false, false, false, false, false, false, false, false, false, false, false, false, false, false, false, false, false, false, false, false, false, false, false, false, false, false, false, false, false, false, false, false, false, false, false, false, false] rfl rfl (take_of HT_.out (by kernel_rfl)) (fun _ _ _ h => h) (Or.inl ⟨by first | rfl | (go_simp; done), ?_⟩) hHeld ?_ ?_
                rotate_left
                · rintro w' ⟨s0, s1, s2, s3, s4⟩
                  go_simp
                  try (with_reducible rfl)
                rotate_left
                · simp only [Act.put, List.setIfInBounds_toArray, List.set_cons_zero, List.set_cons_succ]
                  rfl
                refine take_ (i := 5) (N := some 87) (v := ?_) (a' := ?_) #[true, true, true, true, true, true, false, false, false, false, false, false, false, false, false, false, false, false, false, false, false, false, false, false, false, false, false, false, false, false, false, false, false, false, false, false, false, false, false, false, false, false, false, false, false] rfl rfl (take_of HT_.out (by kernel_rfl)) (fun _ _ _ h => h) (Or.inl ⟨by first | rfl | (go_simp; done), ?_⟩) hHeld ?_ ?_
                rotate_left
                · rintro w' ⟨s0, s1, s2, s3, s4⟩
                  go_simp
                  try (with_reducible rfl)
                rotate_left
                · simp only [Act.put, List.setIfInBounds_toArray, List.set_cons_zero, List.set_cons_succ]
                  rfl
                refine take_ (i := 6) (N := some 88) (v := ?_) (a' := ?_) #[true, true, true, true, true, true, true, false, false, false, false, false, false, false, false, false, false, false, false, false, false, false, false, false, false, false, false, false, false, false, false, false, false, false, false, false, false, false, false, false, false, false, false, false, false] rfl rfl (take_of HT_.out (by kernel_rfl)) (fun _ _ _ h => h) (Or.inl ⟨by first | rfl | (go_simp; done), ?_⟩) hHeld ?_ ?_
                rotate_left
                · rintro w' ⟨s0, s1, s2, s3, s4⟩
                  go_simp
                  try (with_reducible rfl)
                rotate_left
                · simp only [Act.put, List.setIfInBounds_toArray, List.set_cons_zero, List.set_cons_succ]
                  rfl
                refine take_ (i := 7) (N := some 89) (v := ?_) (a' := ?_) #[true, true, true, true, true, true, true, true, false, false, false, false, false, false, false, false, false, false, false, false, false, false, false, false, false, false, false, false, false, false, false, false, false, false, false, false, false, false, false, false, false, false, false, false, false] rfl rfl (take_of HT_.out (by kernel_rfl)) (fun _ _ _ h => h) (Or.inl ⟨by first | rfl | (go_simp; done), ?_⟩) hHeld ?_ ?_
                rotate_left
                · rintro w' ⟨s0, s1, s2, s3, s4⟩
                  go_simp
                  try (with_reducible rfl)
                rotate_left
                · simp only [Act.put, List.setIfInBounds_toArray, List.set_cons_zero, List.set_cons_succ]
                  rfl
                refine take_ (i := 8) (N := some 90) (v := ?_) (a' := ?_) #[true, true, true, true, true, true, true, true, true, false, false, false, false, false, false, false, false, false, false, false, false, false, false, false, false, false, false, false, false, false, false, false, false, false, false, false, false, false, false, false, false, false, false, false, false] rfl rfl (take_of HT_.out (by kernel_rfl)) (fun _ _ _ h => h) (Or.inl ⟨by first | rfl | (go_simp; done), ?_⟩) hHeld ?_ ?_
                rotate_left
                · rintro w' ⟨s0, s1, s2, s3, s4⟩
                  go_simp
                  try (with_reducible rfl)
                rotate_left
                · simp only [Act.put, List.setIfInBounds_toArray, List.set_cons_zero, List.set_cons_succ]
                  rfl
                refine take_ (i := 9) (N := some 91) (v := ?_) (a' := ?_) #[true, true, true, true, true, true, true, true, true, true, false, false, false, false, false, false, false, false, false, false, false, false, false, false, false, false, false, false, false, false, false, false, false, false, false, false, false, false, false, false, false, false, false, false, false] rfl rfl (take_of HT_.out (by kernel_rfl)) (fun _ _ _ h => h) (Or.inl ⟨by first | rfl | (go_simp; done), ?_⟩) hHeld ?_ ?_
                rotate_left
                · rintro w' ⟨s0, s1, s2, s3, s4⟩
                  go_simp
                  try (with_reducible rfl)
                rotate_left
                · simp only [Act.put, List.setIfInBounds_toArray, List.set_cons_zero, List.set_cons_succ]
                  rfl
                refine take_ (i := 11) (N := some 93) (v := ?_) (a' := ?_) #[true, true, true, true, true, true, true, true, true, true, false, true, false, false, false, false, false, false, false, false, false, false, false, false, false, false, false, false, false, false, false, false, false, false, false, false, false, false, false, false, false, false, false, false, false] rfl rfl (take_of HT_.out (by kernel_rfl)) (fun _ _ _ h => h) (Or.inl ⟨by first | rfl | (go_simp; done), ?_⟩) hHeld ?_ ?_
                rotate_left
                · rintro w' ⟨s0, s1, s2, s3, s4⟩
                  go_simp
                  try (with_reducible rfl)
                rotate_left
                · simp only [Act.put, List.setIfInBounds_toArray, List.set_cons_zero, List.set_cons_succ]
                  rfl
                refine take_ (i := 12) (N := some 94) (v := ?_) (a' := ?_) #[true, true, true, true, true, true, true, true, true, true, false, true, true, false, false, false, false, false, false, false, false, false, false, false, false, false, false, false, false, false, false, false, false, false, false, false, false, false, false, false, false, false, false, false, false] rfl rfl (take_of HT_.out (by kernel_rfl)) (fun _ _ _ h => h) (Or.inl ⟨by first | rfl | (go_simp; done), ?_⟩) hHeld ?_ ?_
                rotate_left
                · rintro w' ⟨s0, s1, s2, s3, s4⟩
                  go_simp
                  try (with_reducible rfl)
                rotate_left
                · simp only [Act.put, List.setIfInBounds_toArray, List.set_cons_zero, List.set_cons_succ]
                  rfl
                refine take_ (i := 13) (N := some 95) (v := ?_) (a' := ?_) #[true, true, true, true, true, true, true, true, true, true, false, true, true, true, false, false, false, false, false, false, false, false, false, false, false, false, false, false, false, false, false, false, false, false, false, false, false, false, false, false, false, false, false, false, false] rfl rfl (take_of HT_.out (by kernel_rfl)) (fun _ _ _ h => h) (Or.inl ⟨by first | rfl | (go_simp; done), ?_⟩) hHeld ?_ ?_
                rotate_left
                · rintro w' ⟨s0, s1, s2, s3, s4⟩
                  go_simp
                  try (with_reducible rfl)
                rotate_left
                · simp only [Act.put, List.setIfInBounds_toArray, List.set_cons_zero, List.set_cons_succ]
                  rfl
                refine take_ (i := 14) (N := some 96) (v := ?_) (a' := ?_) #[true, true, true, true, true, true, true, true, true, true, false, true, true, true, true, false, false, false, false, false, false, false, false, false, false, false, false, false, false, false, false, false, false, false, false, false, false, false, false, false, false, false, false, false, false] rfl rfl (take_of HT_.out (by kernel_rfl)) (fun _ _ _ h => h) (Or.inl ⟨by first | rfl | (go_simp; done), ?_⟩) hHeld ?_ ?_
                rotate_left
                · rintro w' ⟨s0, s1, s2, s3, s4⟩
                  go_simp
                  try (with_reducible rfl)
                rotate_left
                · simp only [Act.put, List.setIfInBounds_toArray, List.set_cons_zero, List.set_cons_succ]
                  rfl
                refine take_ (i := 15) (N := some 97) (v := ?_) (a' := ?_) #[true, true, true, true, true, true, true, true, true, true, false, true, true, true, true, true, false, false, false, false, false, false, false, false, false, false, false, false, false, false, false, false, false, false, false, false, false, false, false, false, false, false, false, false, false] rfl rfl (take_of HT_.out (by kernel_rfl)) (fun _ _ _ h => h) (Or.inl ⟨by first | rfl | (go_simp; done), ?_⟩) hHeld ?_ ?_
                rotate_left
                · rintro w' ⟨s0, s1, s2, s3, s4⟩
                  go_simp
                  try (with_reducible rfl)
                rotate_left
                · simp only [Act.put, List.setIfInBounds_toArray, List.set_cons_zero, List.set_cons_succ]
                  rfl
                refine take_ (i := 16) (N := some 98) (v := ?_) (a' := ?_) #[true, true, true, true, true, true, true, true, true, true, false, true, true, true, true, true, true, false, false, false, false, false, false, false, false, false, false, false, false, false, false, false, false, false, false, false, false, false, false, false, false, false, false, false, false] rfl rfl (take_of HT_.out (by kernel_rfl)) (fun _ _ _ h => h) (Or.inl ⟨by first | rfl | (go_simp; done), ?_⟩) hHeld ?_ ?_
                rotate_left
                · rintro w' ⟨s0, s1, s2, s3, s4⟩
                  go_simp
                  try (with_reducible rfl)
                rotate_left
                · simp only [Act.put, List.setIfInBounds_toArray, List.set_cons_zero, List.set_cons_succ]
                  rfl
                refine take_ (i := 17) (N := some 99) (v := ?_) (a' := ?_) #[true, true, true, true, true, true, true, true, true, true, false, true, true, true, true, true, true, true, false, false, false, false, false, false, false, false, false, false, false, false, false, false, false, false, false, false, false, false, false, false, false, false, false, false, false] rfl rfl (take_of HT_.out (by kernel_rfl)) (fun _ _ _ h => h) (Or.inl ⟨by first | rfl | (go_simp; done), ?_⟩) hHeld ?_ ?_
                rotate_left
                · rintro w' ⟨s0, s1, s2, s3, s4⟩
                  go_simp
                  try (with_reducible rfl)
                rotate_left
                · simp only [Act.put, List.setIfInBounds_toArray, List.set_cons_zero, List.set_cons_succ]
                  rfl
                refine one_ (i := 10) (N := some 92) #[true, true, true, true, true, true, true, true, true, true, true, true, true, true, true, true, true, true, false, false, false, false, false, false, false, false, false, false, false, false, false, false, false, false, false, false, false, false, false, false, false, false, false, false, false] rfl rfl (one_of HT_.out (by kernel_rfl)) (by decide) (fun K hK => ?_)
                go_simp
                (with_reducible refine (HLF.out _ hB).mono ?_)
                rintro e w' ⟨rfl, q, rfl⟩
                have hB2 := pw_below_drewN hB q
                clear hB
                have hB := hB2
                clear hB2
                generalize w0d.drewN q = wa at hB ⊢
                refine hK.out _ _ (by (try dsimp only); exact ⟨pw_cell_below hB c1, pw_cell_below hB c4, pw_cell_below hB d0, pw_cell_below hB d4, pw_cell_below hB z0⟩) (fun hHeld2 => ?_)
                clear hK K hHeld
                have hHeld := hHeld2
                clear hHeld2
                try simp only [Act.put, List.setIfInBounds_toArray, List.set_cons_zero, List.set_cons_succ]
                refine take_ (i := 18) (N := some 100) (v := ?_) (a' := ?_) #[true, true, true, true, true, true, true, true, true, true, true, true, true, true, true, true, true, true, true, false, false, false, false, false, false, false, false, false, false, false, false, false, false, false, false, false, false, false, false, false, false, false, false, false, false] rfl rfl (take_of HT_.out (by kernel_rfl)) (fun _ _ _ h => h) (Or.inl ⟨by first | rfl | (go_simp; done), ?_⟩) hHeld ?_ ?_
                rotate_left
                · rintro w' ⟨s0, s1, s2, s3, s4⟩
                  go_simp
                  try (with_reducible rfl)
                rotate_left
                · simp only [Act.put, List.setIfInBounds_toArray, List.set_cons_zero, List.set_cons_succ]
                  rfl
                refine take_ (i := 19) (N := some 101) (v := ?_) (a' := ?_) #[true, true, true, true, true, true, true, true, true, true, true, true, true, true, true, true, true, true, true, true, false, false, false, false, false, false, false, false, false, false, false, false, false, false, false, false, false, false, false, false, false, false, false, false, false] rfl rfl (take_of HT_.out (by kernel_rfl)) (fun _ _ _ h => h) (Or.inl ⟨by first | rfl | (go_simp; done), ?_⟩) hHeld ?_ ?_
                rotate_left
                · rintro w' ⟨s0, s1, s2, s3, s4⟩
                  go_simp
                  try (with_reducible rfl)
                rotate_left
                · simp only [Act.put, List.setIfInBounds_toArray, List.set_cons_zero, List.set_cons_succ]
                  rfl
                refine take_ (i := 20) (N := some 102) (v := ?_) (a' := ?_) #[true, true, true, true, true, true, true, true, true, true, true, true, true, true, true, true, true, true, true, true, true, false, false, false, false, false, false, false, false, false, false, false, false, false, false, false, false, false, false, false, false, false, false, false, false] rfl rfl (take_of HT_.out (by kernel_rfl)) (fun _ _ _ h => h) (Or.inl ⟨by first | rfl | (go_simp; done), ?_⟩) hHeld ?_ ?_
                rotate_left
                · rintro w' ⟨s0, s1, s2, s3, s4⟩
                  go_simp
                  try (with_reducible rfl)
                rotate_left
                · simp only [Act.put, List.setIfInBounds_toArray, List.set_cons_zero, List.set_cons_succ]
                  rfl
                refine take_ (i := 21) (N := some 103) (v := ?_) (a' := ?_) #[true, true, true, true, true, true, true, true, true, true, true, true, true, true, true, true, true, true, true, true, true, true, false, false, false, false, false, false, false, false, false, false, false, false, false, false, false, false, false, false, false, false, false, false, false] rfl rfl (take_of HT_.out (by kernel_rfl)) (fun _ _ _ h => h) (Or.inl ⟨by first | rfl | (go_simp; done), ?_⟩) hHeld ?_ ?_
                rotate_left
                · rintro w' ⟨s0, s1, s2, s3, s4⟩
                  go_simp
                  try (with_reducible rfl)
                rotate_left
                · simp only [Act.put, List.setIfInBounds_toArray, List.set_cons_zero, List.set_cons_succ]
                  rfl
                refine take_ (i := 24) (N := some 106) (v := ?_) (a' := ?_) #[true, true, true, true, true, true, true, true, true, true, true, true, true, true, true, true, true, true, true, true, true, true, false, false, true, false, false, false, false, false, false, false, false, false, false, false, false, false, false, false, false, false, false, false, false] rfl rfl (take_of HT_.out (by kernel_rfl)) (fun _ _ _ h => h) (Or.inl ⟨by first | rfl | (go_simp; done), ?_⟩) hHeld ?_ ?_
                rotate_left
                · rintro w' ⟨s0, s1, s2, s3, s4⟩
                  go_simp
                  try (with_reducible rfl)
                rotate_left
                · simp only [Act.put, List.setIfInBounds_toArray, List.set_cons_zero, List.set_cons_succ]
                  rfl
                refine take_ (i := 25) (N := some 107) (v := ?_) (a' := ?_) #[true, true, true, true, true, true, true, true, true, true, true, true, true, true, true, true, true, true, true, true, true, true, false, false, true, true, false, false, false, false, false, false, false, false, false, false, false, false, false, false, false, false, false, false, false] rfl rfl (take_of HT_.out (by kernel_rfl)) (fun _ _ _ h => h) (Or.inl ⟨by first | rfl | (go_simp; done), ?_⟩) hHeld ?_ ?_
                rotate_left
                · rintro w' ⟨s0, s1, s2, s3, s4⟩
                  go_simp
                  try (with_reducible rfl)
                rotate_left
                · simp only [Act.put, List.setIfInBounds_toArray, List.set_cons_zero, List.set_cons_succ]
                  rfl
                refine take_ (i := 27) (N := some 109) (v := ?_) (a' := ?_) #[true, true, true, true, true, true, true, true, true, true, true, true, true, true, true, true, true, true, true, true, true, true, false, false, true, true, false, true, false, false, false, false, false, false, false, false, false, false, false, false, false, false, false, false, false] rfl rfl (take_of HT_.out (by kernel_rfl)) (fun _ _ _ h => h) (Or.inl ⟨by first | rfl | (go_simp; done), ?_⟩) hHeld ?_ ?_
                rotate_left
                · rintro w' ⟨s0, s1, s2, s3, s4⟩
                  go_simp
                  try (with_reducible rfl)
                rotate_left
                · simp only [Act.put, List.setIfInBounds_toArray, List.set_cons_zero, List.set_cons_succ]
                  rfl
                refine take_ (i := 28) (N := some 110) (v := ?_) (a' := ?_) #[true, true, true, true, true, true, true, true, true, true, true, true, true, true, true, true, true, true, true, true, true, true, false, false, true, true, false, true, true, false, false, false, false, false, false, false, false, false, false, false, false, false, false, false, false] rfl rfl (take_of HT_.out (by kernel_rfl)) (fun _ _ _ h => h) (Or.inl ⟨by first | rfl | (go_simp; done), ?_⟩) hHeld ?_ ?_
                rotate_left
                · rintro w' ⟨s0, s1, s2, s3, s4⟩
                  go_simp
                  try (with_reducible rfl)
                rotate_left
                · simp only [Act.put, List.setIfInBounds_toArray, List.set_cons_zero, List.set_cons_succ]
                  rfl
                refine two_ (i := 22) (j := 23) (Ni := some 104) (Nj := some 105) #[true, true, true, true, true, true, true, true, true, true, true, true, true, true, true, true, true, true, true, true, true, true, true, false, true, true, false, true, true, false, false, false, false, false, false, false, false, false, false, false, false, false, false, false, false] #[true, true, true, true, true, true, true, true, true, true, true, true, true, true, true, true, true, true, true, true, true, true, false, true, true, true, false, true, true, false, false, false, false, false, false, false, false, false, false, false, false, false, false, false, false] rfl rfl rfl rfl (two_of HT_.out (by kernel_rfl)) (by decide) (by decide) (fun K hK => ?_) (fun K hK => ?_)
                · go_simp
                  (with_reducible refine (HTK.out _ hB).mono ?_)
                  rintro e wb ⟨A2, c2, rfl, ho, hb⟩
                  have HT2 := Aside0.mk ho
                  have hB2 := below_then hB hB.size hb
                  clear hB
                  have hB := hB2
                  clear hB2
                  clear ho hb
                  refine hK.out _ _ (by (try dsimp only); exact ⟨pw_cell_below hB c1, pw_cell_below hB c4, pw_cell_below hB d0, pw_cell_below hB d4, pw_cell_below hB z0⟩) (fun hHeld2 => ?_)
                  clear hK K hHeld
                  have hHeld := hHeld2
                  clear hHeld2
                  try simp only [Act.put, List.setIfInBounds_toArray, List.set_cons_zero, List.set_cons_succ]
                  refine one_ (i := 23) (N := some 105) #[true, true, true, true, true, true, true, true, true, true, true, true, true, true, true, true, true, true, true, true, true, true, true, true, true, true, false, true, true, false, false, false, false, false, false, false, false, false, false, false, false, false, false, false, false] rfl rfl (one_of HT_.out (by kernel_rfl)) (by decide) (fun K hK => ?_)
                  go_simp
                  have HE := Aside0.mk (own_empty wb wc.heap.size 57 2 hB.size)
                  have HT3 := Aside0.mk (HT2.out.alloc (.cells #[] 57))
                  clear HT2
                  have HT2 := HT3
                  have hB2 := hB.alloc hB.size (.cells #[] 57)
                  clear hB
                  have hB := hB2
                  clear hB2
                  generalize wb.heap.size = hh at HE ⊢
                  generalize wb.alloc (.cells #[] 57) = wd at hB HE HT2 ⊢
                  refine hK.out _ _ (by (try dsimp only); exact ⟨pw_cell_below hB c1, pw_cell_below hB c4, pw_cell_below hB d0, pw_cell_below hB d4, pw_cell_below hB z0⟩) (fun hHeld2 => ?_)
                  clear hK K hHeld
                  have hHeld := hHeld2
                  clear hHeld2
                  try simp only [Act.put, List.setIfInBounds_toArray, List.set_cons_zero, List.set_cons_succ]
                  refine one_ (i := 26) (N := some 108) #[true, true, true, true, true, true, true, true, true, true, true, true, true, true, true, true, true, true, true, true, true, true, true, true, true, true, true, true, true, false, false, false, false, false, false, false, false, false, false, false, false, false, false, false, false] rfl rfl (one_of HT_.out (by kernel_rfl)) (by decide) (fun K hK => ?_)
                  rw [if_pos (by (first | (go_simp; done) | simp [Region.wanted]))]
                  refine wp_append_row _ (.tmp 105) (.tmp 107) 47 (by rfl) wc.heap.size 57 j0 _ 2 16 Try.underlying47 HJ.out.1 HJ.out.2.1 HJ.out.2.2.1 HJ.out.2.2.2 rfl (by omega) _ 0 [] (by simp [Act.eval, Act.put]) HE.out w.heap.size j' (.slice X4 j' cX) (recs (T.take j')) (by simp [Act.eval, Act.put]) (pw_own_below HRX.out hB) (recs_one _) (by have := HL2.out.1; unfold maxLen; omega) (by have := HL2.out.1; omega) hB.size ?_
                  intro A5 c5 w5 ho hg
                  rw [Nat.zero_add, List.nil_append] at ho
                  rw [Nat.zero_add]
                  have HO5 := Aside0.mk ho
                  have HT5 := Aside0.mk (own_grown_other HT2.out HE.out (by decide) hg)
                  have hB2 := hB.grown hg hB.size (own_base HE.out)
                  clear hB
                  have hB := hB2
                  clear hB2
                  clear ho hg
                  refine hK.out _ _ (by (try dsimp only); exact ⟨pw_cell_below hB c1, pw_cell_below hB c4, pw_cell_below hB d0, pw_cell_below hB d4, pw_cell_below hB z0⟩) (fun hHeld2 => ?_)
                  clear hK K hHeld
                  have hHeld := hHeld2
                  clear hHeld2
                  try simp only [Act.put, List.setIfInBounds_toArray, List.set_cons_zero, List.set_cons_succ]
                  refine one_ (i := 29) (N := some 111) #[true, true, true, true, true, true, true, true, true, true, true, true, true, true, true, true, true, true, true, true, true, true, true, true, true, true, true, true, true, true, false, false, false, false, false, false, false, false, false, false, false, false, false, false, false] rfl rfl (one_of HT_.out (by kernel_rfl)) (by decide) (fun K hK => ?_)
                  rw [if_pos (by (first | (go_simp; done) | simp [Region.wanted]))]
                  refine wp_append_row _ (.tmp 108) (.tmp 110) 47 (by rfl) wc.heap.size 57 j0 _ 2 16 Try.underlying47 HJ.out.1 HJ.out.2.1 HJ.out.2.2.1 HJ.out.2.2.2 rfl (by omega) _ j' (recs (T.take j')) (by simp [Act.eval, Act.put]) HO5.out w.heap.size k' (.slice Y4 k' cY) (recs Y') (by simp [Act.eval, Act.put]) (pw_own_below HRY.out hB) (recs_one _) (by have := HL2.out; unfold maxLen; omega) (by have := HL2.out; omega) hB.size ?_
                  intro A6 c6 w6 ho hg
                  have HO6 := Aside0.mk ho
                  have HT6 := Aside0.mk (own_grown_other HT5.out HO5.out (by decide) hg)
                  have hB2 := hB.grown hg hB.size (own_base HO5.out)
                  clear hB
                  have hB := hB2
                  clear hB2
                  clear ho hg
                  refine hK.out _ _ (by (try dsimp only); exact ⟨pw_cell_below hB c1, pw_cell_below hB c4, pw_cell_below hB d0, pw_cell_below hB d4, pw_cell_below hB z0⟩) (fun hHeld2 => ?_)
                  clear hK K hHeld
                  have hHeld := hHeld2
                  clear hHeld2
                  try simp only [Act.put, List.setIfInBounds_toArray, List.set_cons_zero, List.set_cons_succ]
                  refine one_ (i := 30) (N := some 112) #[true, true, true, true, true, true, true, true, true, true, true, true, true, true, true, true, true, true, true, true, true, true, true, true, true, true, true, true, true, true, true, false, false, false, false, false, false, false, false, false, false, false, false, false, false] rfl rfl (one_of HT_.out (by kernel_rfl)) (by decide) (fun K hK => ?_)
                  go_simp
                  (with_reducible refine (are_own HT6.out HO6.out HL2.out.2.2.1 HL2.out.2.2.2).mono ?_)
                  rintro e w' ⟨rfl, q2, rfl⟩
                  have hB2 := pw_below_drewN hB q2
                  clear hB
                  have hB := hB2
                  clear hB2
                  refine hK.out _ _ (by (try dsimp only); exact ⟨pw_cell_below hB c1, pw_cell_below hB c4, pw_cell_below hB d0, pw_cell_below hB d4, pw_cell_below hB z0⟩) (fun hHeld2 => ?_)
                  clear hK K hHeld
                  have hHeld := hHeld2
                  clear hHeld2
                  try simp only [Act.put, List.setIfInBounds_toArray, List.set_cons_zero, List.set_cons_succ]
                  refine take_ (i := 31) (N := some 113) (v := ?_) (a' := ?_) #[true, true, true, true, true, true, true, true, true, true, true, true, true, true, true, true, true, true, true, true, true, true, true, true, true, true, true, true, true, true, true, true, false, false, false, false, false, false, false, false, false, false, false, false, false] rfl rfl (take_of HT_.out (by kernel_rfl)) (fun _ _ _ h => h) (Or.inl ⟨by first | rfl | (go_simp; done), ?_⟩) hHeld ?_ ?_
                  rotate_left
                  · rintro w' ⟨s0, s1, s2, s3, s4⟩
                    go_simp
                    try (with_reducible rfl)
                  rotate_left
                  · simp only [Act.put, List.setIfInBounds_toArray, List.set_cons_zero, List.set_cons_succ]
                    rfl
                  refine take_ (i := 32) (N := some 114) (v := ?_) (a' := ?_) #[true, true, true, true, true, true, true, true, true, true, true, true, true, true, true, true, true, true, true, true, true, true, true, true, true, true, true, true, true, true, true, true, true, false, false, false, false, false, false, false, false, false, false, false, false] rfl rfl (take_of HT_.out (by kernel_rfl)) (fun _ _ _ h => h) (Or.inl ⟨by first | rfl | (go_simp; done), ?_⟩) hHeld ?_ ?_
                  rotate_left
                  · rintro w' ⟨s0, s1, s2, s3, s4⟩
                    go_simp
                    try (with_reducible rfl)
                  rotate_left
                  · simp only [Act.put, List.setIfInBounds_toArray, List.set_cons_zero, List.set_cons_succ]
                    rfl
                  refine take_ (i := 33) (N := some 115) (v := ?_) (a' := ?_) #[true, true, true, true, true, true, true, true, true, true, true, true, true, true, true, true, true, true, true, true, true, true, true, true, true, true, true, true, true, true, true, true, true, true, false, false, false, false, false, false, false, false, false, false, false] rfl rfl (take_of HT_.out (by kernel_rfl)) (fun _ _ _ h => h) (Or.inl ⟨by first | rfl | (go_simp; done), ?_⟩) hHeld ?_ ?_
                  rotate_left
                  · rintro w' ⟨s0, s1, s2, s3, s4⟩
                    go_simp
                    try (with_reducible rfl)
                  rotate_left
                  · simp only [Act.put, List.setIfInBounds_toArray, List.set_cons_zero, List.set_cons_succ]
                    rfl
                  refine take_ (i := 34) (N := some 116) (v := ?_) (a' := ?_) #[true, true, true, true, true, true, true, true, true, true, true, true, true, true, true, true, true, true, true, true, true, true, true, true, true, true, true, true, true, true, true, true, true, true, true, false, false, false, false, false, false, false, false, false, false] rfl rfl (take_of HT_.out (by kernel_rfl)) (fun _ _ _ h => h) (Or.inl ⟨by first | rfl | (go_simp; done), ?_⟩) hHeld ?_ ?_
                  rotate_left
                  · rintro w' ⟨s0, s1, s2, s3, s4⟩
                    go_simp
                    try (with_reducible rfl)
                  rotate_left
                  · simp only [Act.put, List.setIfInBounds_toArray, List.set_cons_zero, List.set_cons_succ]
                    rfl
                  refine take_ (i := 35) (N := some 117) (v := ?_) (a' := ?_) #[true, true, true, true, true, true, true, true, true, true, true, true, true, true, true, true, true, true, true, true, true, true, true, true, true, true, true, true, true, true, true, true, true, true, true, true, false, false, false, false, false, false, false, false, false] rfl rfl (take_of HT_.out (by kernel_rfl)) (fun _ _ _ h => h) (Or.inl ⟨by first | rfl | (go_simp; done), ?_⟩) hHeld ?_ ?_
                  rotate_left
                  · rintro w' ⟨s0, s1, s2, s3, s4⟩
                    go_simp
                    try (with_reducible rfl)
                  rotate_left
                  · simp only [Act.put, List.setIfInBounds_toArray, List.set_cons_zero, List.set_cons_succ]
                    rfl
                  refine take_ (i := 36) (N := some 118) (v := ?_) (a' := ?_) #[true, true, true, true, true, true, true, true, true, true, true, true, true, true, true, true, true, true, true, true, true, true, true, true, true, true, true, true, true, true, true, true, true, true, true, true, true, false, false, false, false, false, false, false, false] rfl rfl (take_of HT_.out (by kernel_rfl)) (fun _ _ _ h => h) (Or.inl ⟨by first | rfl | (go_simp; done), ?_⟩) hHeld ?_ ?_
                  rotate_left
                  · rintro w' ⟨s0, s1, s2, s3, s4⟩
                    go_simp
                    try (with_reducible rfl)
                  rotate_left
                  · simp only [Act.put, List.setIfInBounds_toArray, List.set_cons_zero, List.set_cons_succ]
                    rfl
                  refine take_ (i := 37) (N := some 119) (v := undef) (a' := ?_) #[true, true, true, true, true, true, true, true, true, true, true, true, true, true, true, true, true, true, true, true, true, true, true, true, true, true, true, true, true, true, true, true, true, true, true, true, true, true, false, false, false, false, false, false, false] rfl rfl (take_of HT_.out (by kernel_rfl)) (fun _ _ _ h => h) (Or.inr ⟨by first | rfl | (go_simp; done), rfl⟩) hHeld ?_ ?_
                  rotate_left
                  · simp only [Act.put, List.setIfInBounds_toArray, List.set_cons_zero, List.set_cons_succ]
                    rfl
                  refine take_ (i := 38) (N := some 120) (v := undef) (a' := ?_) #[true, true, true, true, true, true, true, true, true, true, true, true, true, true, true, true, true, true, true, true, true, true, true, true, true, true, true, true, true, true, true, true, true, true, true, true, true, true, true, false, false, false, false, false, false] rfl rfl (take_of HT_.out (by kernel_rfl)) (fun _ _ _ h => h) (Or.inr ⟨by first | rfl | (go_simp; done), rfl⟩) hHeld ?_ ?_
                  rotate_left
                  · simp only [Act.put, List.setIfInBounds_toArray, List.set_cons_zero, List.set_cons_succ]
                    rfl
                  refine take_ (i := 39) (N := some 121) (v := undef) (a' := ?_) #[true, true, true, true, true, true, true, true, true, true, true, true, true, true, true, true, true, true, true, true, true, true, true, true, true, true, true, true, true, true, true, true, true, true, true, true, true, true, true, true, false, false, false, false, false] rfl rfl (take_of HT_.out (by kernel_rfl)) (fun _ _ _ h => h) (Or.inr ⟨by first | rfl | (go_simp; done), rfl⟩) hHeld ?_ ?_
                  rotate_left
                  · simp only [Act.put, List.setIfInBounds_toArray, List.set_cons_zero, List.set_cons_succ]
                    rfl
                  refine take_ (i := 40) (N := some 122) (v := undef) (a' := ?_) #[true, true, true, true, true, true, true, true, true, true, true, true, true, true, true, true, true, true, true, true, true, true, true, true, true, true, true, true, true, true, true, true, true, true, true, true, true, true, true, true, true, false, false, false, false] rfl rfl (take_of HT_.out (by kernel_rfl)) (fun _ _ _ h => h) (Or.inr ⟨by first | rfl | (go_simp; done), rfl⟩) hHeld ?_ ?_
                  rotate_left
                  · simp only [Act.put, List.setIfInBounds_toArray, List.set_cons_zero, List.set_cons_succ]
                    rfl
                  refine take_ (i := 41) (N := some 123) (v := undef) (a' := ?_) #[true, true, true, true, true, true, true, true, true, true, true, true, true, true, true, true, true, true, true, true, true, true, true, true, true, true, true, true, true, true, true, true, true, true, true, true, true, true, true, true, true, true, false, false, false] rfl rfl (take_of HT_.out (by kernel_rfl)) (fun _ _ _ h => h) (Or.inr ⟨by first | rfl | (go_simp; done), rfl⟩) hHeld ?_ ?_
                  rotate_left
                  · simp only [Act.put, List.setIfInBounds_toArray, List.set_cons_zero, List.set_cons_succ]
                    rfl
                  refine take_ (i := 42) (N := some 124) (v := undef) (a' := ?_) #[true, true, true, true, true, true, true, true, true, true, true, true, true, true, true, true, true, true, true, true, true, true, true, true, true, true, true, true, true, true, true, true, true, true, true, true, true, true, true, true, true, true, true, false, false] rfl rfl (take_of HT_.out (by kernel_rfl)) (fun _ _ _ h => h) (Or.inr ⟨by first | rfl | (go_simp; done), rfl⟩) hHeld ?_ ?_
                  rotate_left
                  · simp only [Act.put, List.setIfInBounds_toArray, List.set_cons_zero, List.set_cons_succ]
                    rfl
                  refine take_ (i := 43) (N := some 125) (v := ?_) (a' := ?_) #[true, true, true, true, true, true, true, true, true, true, true, true, true, true, true, true, true, true, true, true, true, true, true, true, true, true, true, true, true, true, true, true, true, true, true, true, true, true, true, true, true, true, true, true, false] rfl rfl (take_of HT_.out (by kernel_rfl)) (fun _ _ _ h => h) (Or.inl ⟨by first | rfl | (go_simp; done), ?_⟩) hHeld ?_ ?_
                  rotate_left
                  · rintro w' ⟨s0, s1, s2, s3, s4⟩
                    go_simp
                    try (with_reducible rfl)
                  rotate_left
                  · simp only [Act.put, List.setIfInBounds_toArray, List.set_cons_zero, List.set_cons_succ]
                    rfl
                  refine take_ (i := 44) (N := some 126) (v := ?_) (a' := ?_) #[true, true, true, true, true, true, true, true, true, true, true, true, true, true, true, true, true, true, true, true, true, true, true, true, true, true, true, true, true, true, true, true, true, true, true, true, true, true, true, true, true, true, true, true, true] rfl rfl (take_of HT_.out (by kernel_rfl)) (fun _ _ _ h => h) (Or.inl ⟨by first | rfl | (go_simp; done), ?_⟩) hHeld ?_ ?_
                  rotate_left
                  · rintro w' ⟨s0, s1, s2, s3, s4⟩
                    go_simp
                    try (with_reducible rfl)
                  rotate_left
                  · simp only [Act.put, List.setIfInBounds_toArray, List.set_cons_zero, List.set_cons_succ]
                    rfl
                  refine done_ (done_of HT_.out (by kernel_rfl)) ?_
                  refine NoPanic.normal ?_
                  go_wp2
                  go_meet
                  exact ⟨rfl, HCH9.out.below hB, HRF9.out.still (Still50.of_below hB), below_then HBL9.out HBL9.out.size hB⟩
                · go_simp
                  have HE := Aside0.mk (own_empty wa wc.heap.size 57 2 hB.size)
                  have hB2 := hB.alloc hB.size (.cells #[] 57)
                  clear hB
                  have hB := hB2
                  clear hB2
                  generalize wa.heap.size = hh at HE ⊢
                  generalize wa.alloc (.cells #[] 57) = wd at hB HE ⊢
                  refine hK.out _ _ (by (try dsimp only); exact ⟨pw_cell_below hB c1, pw_cell_below hB c4, pw_cell_below hB d0, pw_cell_below hB d4, pw_cell_below hB z0⟩) (fun hHeld2 => ?_)
                  clear hK K hHeld
                  have hHeld := hHeld2
                  clear hHeld2
                  try simp only [Act.put, List.setIfInBounds_toArray, List.set_cons_zero, List.set_cons_succ]
                  refine one_ (i := 22) (N := some 104) #[true, true, true, true, true, true, true, true, true, true, true, true, true, true, true, true, true, true, true, true, true, true, true, true, true, true, false, true, true, false, false, false, false, false, false, false, false, false, false, false, false, false, false, false, false] rfl rfl (one_of HT_.out (by kernel_rfl)) (by decide) (fun K hK => ?_)
                  go_simp
                  (with_reducible refine (HTK.out _ hB).mono ?_)
                  rintro e wb ⟨A2, c2, rfl, ho, hb⟩
                  have HT2 := Aside0.mk ho
                  have HE2 := Aside0.mk (pw_own_below HE.out hb)
                  clear HE
                  have HE := HE2
                  have hB2 := below_then hB hB.size hb
                  clear hB
                  have hB := hB2
                  clear hB2
                  clear ho hb
                  refine hK.out _ _ (by (try dsimp only); exact ⟨pw_cell_below hB c1, pw_cell_below hB c4, pw_cell_below hB d0, pw_cell_below hB d4, pw_cell_below hB z0⟩) (fun hHeld2 => ?_)
                  clear hK K hHeld
                  have hHeld := hHeld2
                  clear hHeld2
                  try simp only [Act.put, List.setIfInBounds_toArray, List.set_cons_zero, List.set_cons_succ]
                  refine one_ (i := 26) (N := some 108) #[true, true, true, true, true, true, true, true, true, true, true, true, true, true, true, true, true, true, true, true, true, true, true, true, true, true, true, true, true, false, false, false, false, false, false, false, false, false, false, false, false, false, false, false, false] rfl rfl (one_of HT_.out (by kernel_rfl)) (by decide) (fun K hK => ?_)
                  rw [if_pos (by (first | (go_simp; done) | simp [Region.wanted]))]
                  refine wp_append_row _ (.tmp 105) (.tmp 107) 47 (by rfl) wc.heap.size 57 j0 _ 2 16 Try.underlying47 HJ.out.1 HJ.out.2.1 HJ.out.2.2.1 HJ.out.2.2.2 rfl (by omega) _ 0 [] (by simp [Act.eval, Act.put]) HE.out w.heap.size j' (.slice X4 j' cX) (recs (T.take j')) (by simp [Act.eval, Act.put]) (pw_own_below HRX.out hB) (recs_one _) (by have := HL2.out.1; unfold maxLen; omega) (by have := HL2.out.1; omega) hB.size ?_
                  intro A5 c5 w5 ho hg
                  rw [Nat.zero_add, List.nil_append] at ho
                  rw [Nat.zero_add]
                  have HO5 := Aside0.mk ho
                  have HT5 := Aside0.mk (own_grown_other HT2.out HE.out (by decide) hg)
                  have hB2 := hB.grown hg hB.size (own_base HE.out)
                  clear hB
                  have hB := hB2
                  clear hB2
                  clear ho hg
                  refine hK.out _ _ (by (try dsimp only); exact ⟨pw_cell_below hB c1, pw_cell_below hB c4, pw_cell_below hB d0, pw_cell_below hB d4, pw_cell_below hB z0⟩) (fun hHeld2 => ?_)
                  clear hK K hHeld
                  have hHeld := hHeld2
                  clear hHeld2
                  try simp only [Act.put, List.setIfInBounds_toArray, List.set_cons_zero, List.set_cons_succ]
                  refine one_ (i := 29) (N := some 111) #[true, true, true, true, true, true, true, true, true, true, true, true, true, true, true, true, true, true, true, true, true, true, true, true, true, true, true, true, true, true, false, false, false, false, false, false, false, false, false, false, false, false, false, false, false] rfl rfl (one_of HT_.out (by kernel_rfl)) (by decide) (fun K hK => ?_)
                  rw [if_pos (by (first | (go_simp; done) | simp [Region.wanted]))]
                  refine wp_append_row _ (.tmp 108) (.tmp 110) 47 (by rfl) wc.heap.size 57 j0 _ 2 16 Try.underlying47 HJ.out.1 HJ.out.2.1 HJ.out.2.2.1 HJ.out.2.2.2 rfl (by omega) _ j' (recs (T.take j')) (by simp [Act.eval, Act.put]) HO5.out w.heap.size k' (.slice Y4 k' cY) (recs Y') (by simp [Act.eval, Act.put]) (pw_own_below HRY.out hB) (recs_one _) (by have := HL2.out; unfold maxLen; omega) (by have := HL2.out; omega) hB.size ?_
                  intro A6 c6 w6 ho hg
                  have HO6 := Aside0.mk ho
                  have HT6 := Aside0.mk (own_grown_other HT5.out HO5.out (by decide) hg)
                  have hB2 := hB.grown hg hB.size (own_base HO5.out)
                  clear hB
                  have hB := hB2
                  clear hB2
                  clear ho hg
                  refine hK.out _ _ (by (try dsimp only); exact ⟨pw_cell_below hB c1, pw_cell_below hB c4, pw_cell_below hB d0, pw_cell_below hB d4, pw_cell_below hB z0⟩) (fun hHeld2 => ?_)
                  clear hK K hHeld
                  have hHeld := hHeld2
                  clear hHeld2
                  try simp only [Act.put, List.setIfInBounds_toArray, List.set_cons_zero, List.set_cons_succ]
                  refine one_ (i := 30) (N := some 112) #[true, true, true, true, true, true, true, true, true, true, true, true, true, true, true, true, true, true, true, true, true, true, true, true, true, true, true, true, true, true, true, false, false, false, false, false, false, false, false, false, false, false, false, false, false] rfl rfl (one_of HT_.out (by kernel_rfl)) (by decide) (fun K hK => ?_)
                  go_simp
                  (with_reducible refine (are_own HT6.out HO6.out HL2.out.2.2.1 HL2.out.2.2.2).mono ?_)
                  rintro e w' ⟨rfl, q2, rfl⟩
                  have hB2 := pw_below_drewN hB q2
                  clear hB
                  have hB := hB2
                  clear hB2
                  refine hK.out _ _ (by (try dsimp only); exact ⟨pw_cell_below hB c1, pw_cell_below hB c4, pw_cell_below hB d0, pw_cell_below hB d4, pw_cell_below hB z0⟩) (fun hHeld2 => ?_)
                  clear hK K hHeld
                  have hHeld := hHeld2
                  clear hHeld2
                  try simp only [Act.put, List.setIfInBounds_toArray, List.set_cons_zero, List.set_cons_succ]
                  refine take_ (i := 31) (N := some 113) (v := ?_) (a' := ?_) #[true, true, true, true, true, true, true, true, true, true, true, true, true, true, true, true, true, true, true, true, true, true, true, true, true, true, true, true, true, true, true, true, false, false, false, false, false, false, false, false, false, false, false, false, false] rfl rfl (take_of HT_.out (by kernel_rfl)) (fun _ _ _ h => h) (Or.inl ⟨by first | rfl | (go_simp; done), ?_⟩) hHeld ?_ ?_
                  rotate_left
                  · rintro w' ⟨s0, s1, s2, s3, s4⟩
                    go_simp
                    try (with_reducible rfl)
                  rotate_left
                  · simp only [Act.put, List.setIfInBounds_toArray, List.set_cons_zero, List.set_cons_succ]
                    rfl
                  refine take_ (i := 32) (N := some 114) (v := ?_) (a' := ?_) #[true, true, true, true, true, true, true, true, true, true, true, true, true, true, true, true, true, true, true, true, true, true, true, true, true, true, true, true, true, true, true, true, true, false, false, false, false, false, false, false, false, false, false, false, false] rfl rfl (take_of HT_.out (by kernel_rfl)) (fun _ _ _ h => h) (Or.inl ⟨by first | rfl | (go_simp; done), ?_⟩) hHeld ?_ ?_
                  rotate_left
                  · rintro w' ⟨s0, s1, s2, s3, s4⟩
                    go_simp
                    try (with_reducible rfl)
                  rotate_left
                  · simp only [Act.put, List.setIfInBounds_toArray, List.set_cons_zero, List.set_cons_succ]
                    rfl
                  refine take_ (i := 33) (N := some 115) (v := ?_) (a' := ?_) #[true, true, true, true, true, true, true, true, true, true, true, true, true, true, true, true, true, true, true, true, true, true, true, true, true, true, true, true, true, true, true, true, true, true, false, false, false, false, false, false, false, false, false, false, false] rfl rfl (take_of HT_.out (by kernel_rfl)) (fun _ _ _ h => h) (Or.inl ⟨by first | rfl | (go_simp; done), ?_⟩) hHeld ?_ ?_
                  rotate_left
                  · rintro w' ⟨s0, s1, s2, s3, s4⟩
                    go_simp
                    try (with_reducible rfl)
                  rotate_left
                  · simp only [Act.put, List.setIfInBounds_toArray, List.set_cons_zero, List.set_cons_succ]
                    rfl
                  refine take_ (i := 34) (N := some 116) (v := ?_) (a' := ?_) #[true, true, true, true, true, true, true, true, true, true, true, true, true, true, true, true, true, true, true, true, true, true, true, true, true, true, true, true, true, true, true, true, true, true, true, false, false, false, false, false, false, false, false, false, false] rfl rfl (take_of HT_.out (by kernel_rfl)) (fun _ _ _ h => h) (Or.inl ⟨by first | rfl | (go_simp; done), ?_⟩) hHeld ?_ ?_
                  rotate_left
                  · rintro w' ⟨s0, s1, s2, s3, s4⟩
                    go_simp
                    try (with_reducible rfl)
                  rotate_left
                  · simp only [Act.put, List.setIfInBounds_toArray, List.set_cons_zero, List.set_cons_succ]
                    rfl
                  refine take_ (i := 35) (N := some 117) (v := ?_) (a' := ?_) #[true, true, true, true, true, true, true, true, true, true, true, true, true, true, true, true, true, true, true, true, true, true, true, true, true, true, true, true, true, true, true, true, true, true, true, true, false, false, false, false, false, false, false, false, false] rfl rfl (take_of HT_.out (by kernel_rfl)) (fun _ _ _ h => h) (Or.inl ⟨by first | rfl | (go_simp; done), ?_⟩) hHeld ?_ ?_
                  rotate_left
                  · rintro w' ⟨s0, s1, s2, s3, s4⟩
                    go_simp
                    try (with_reducible rfl)
                  rotate_left
                  · simp only [Act.put, List.setIfInBounds_toArray, List.set_cons_zero, List.set_cons_succ]
                    rfl
                  refine take_ (i := 36) (N := some 118) (v := ?_) (a' := ?_) #[true, true, true, true, true, true, true, true, true, true, true, true, true, true, true, true, true, true, true, true, true, true, true, true, true, true, true, true, true, true, true, true, true, true, true, true, true, false, false, false, false, false, false, false, false] rfl rfl (take_of HT_.out (by kernel_rfl)) (fun _ _ _ h => h) (Or.inl ⟨by first | rfl | (go_simp; done), ?_⟩) hHeld ?_ ?_
                  rotate_left
                  · rintro w' ⟨s0, s1, s2, s3, s4⟩
                    go_simp
                    try (with_reducible rfl)
                  rotate_left
                  · simp only [Act.put, List.setIfInBounds_toArray, List.set_cons_zero, List.set_cons_succ]
                    rfl
                  refine take_ (i := 37) (N := some 119) (v := undef) (a' := ?_) #[true, true, true, true, true, true, true, true, true, true, true, true, true, true, true, true, true, true, true, true, true, true, true, true, true, true, true, true, true, true, true, true, true, true, true, true, true, true, false, false, false, false, false, false, false] rfl rfl (take_of HT_.out (by kernel_rfl)) (fun _ _ _ h => h) (Or.inr ⟨by first | rfl | (go_simp; done), rfl⟩) hHeld ?_ ?_
                  rotate_left
                  · simp only [Act.put, List.setIfInBounds_toArray, List.set_cons_zero, List.set_cons_succ]
                    rfl
                  refine take_ (i := 38) (N := some 120) (v := undef) (a' := ?_) #[true, true, true, true, true, true, true, true, true, true, true, true, true, true, true, true, true, true, true, true, true, true, true, true, true, true, true, true, true, true, true, true, true, true, true, true, true, true, true, false, false, false, false, false, false] rfl rfl (take_of HT_.out (by kernel_rfl)) (fun _ _ _ h => h) (Or.inr ⟨by first | rfl | (go_simp; done), rfl⟩) hHeld ?_ ?_
                  rotate_left
                  · simp only [Act.put, List.setIfInBounds_toArray, List.set_cons_zero, List.set_cons_succ]
                    rfl
                  refine take_ (i := 39) (N := some 121) (v := undef) (a' := ?_) #[true, true, true, true, true, true, true, true, true, true, true, true, true, true, true, true, true, true, true, true, true, true, true, true, true, true, true, true, true, true, true, true, true, true, true, true, true, true, true, true, false, false, false, false, false] rfl rfl (take_of HT_.out (by kernel_rfl)) (fun _ _ _ h => h) (Or.inr ⟨by first | rfl | (go_simp; done), rfl⟩) hHeld ?_ ?_
                  rotate_left
                  · simp only [Act.put, List.setIfInBounds_toArray, List.set_cons_zero, List.set_cons_succ]
                    rfl
                  refine take_ (i := 40) (N := some 122) (v := undef) (a' := ?_) #[true, true, true, true, true, true, true, true, true, true, true, true, true, true, true, true, true, true, true, true, true, true, true, true, true, true, true, true, true, true, true, true, true, true, true, true, true, true, true, true, true, false, false, false, false] rfl rfl (take_of HT_.out (by kernel_rfl)) (fun _ _ _ h => h) (Or.inr ⟨by first | rfl | (go_simp; done), rfl⟩) hHeld ?_ ?_
                  rotate_left
                  · simp only [Act.put, List.setIfInBounds_toArray, List.set_cons_zero, List.set_cons_succ]
                    rfl
                  refine take_ (i := 41) (N := some 123) (v := undef) (a' := ?_) #[true, true, true, true, true, true, true, true, true, true, true, true, true, true, true, true, true, true, true, true, true, true, true, true, true, true, true, true, true, true, true, true, true, true, true, true, true, true, true, true, true, true, false, false, false] rfl rfl (take_of HT_.out (by kernel_rfl)) (fun _ _ _ h => h) (Or.inr ⟨by first | rfl | (go_simp; done), rfl⟩) hHeld ?_ ?_
                  rotate_left
                  · simp only [Act.put, List.setIfInBounds_toArray, List.set_cons_zero, List.set_cons_succ]
                    rfl
                  refine take_ (i := 42) (N := some 124) (v := undef) (a' := ?_) #[true, true, true, true, true, true, true, true, true, true, true, true, true, true, true, true, true, true, true, true, true, true, true, true, true, true, true, true, true, true, true, true, true, true, true, true, true, true, true, true, true, true, true, false, false] rfl rfl (take_of HT_.out (by kernel_rfl)) (fun _ _ _ h => h) (Or.inr ⟨by first | rfl | (go_simp; done), rfl⟩) hHeld ?_ ?_
                  rotate_left
                  · simp only [Act.put, List.setIfInBounds_toArray, List.set_cons_zero, List.set_cons_succ]
                    rfl
                  refine take_ (i := 43) (N := some 125) (v := ?_) (a' := ?_) #[true, true, true, true, true, true, true, true, true, true, true, true, true, true, true, true, true, true, true, true, true, true, true, true, true, true, true, true, true, true, true, true, true, true, true, true, true, true, true, true, true, true, true, true, false] rfl rfl (take_of HT_.out (by kernel_rfl)) (fun _ _ _ h => h) (Or.inl ⟨by first | rfl | (go_simp; done), ?_⟩) hHeld ?_ ?_
                  rotate_left
                  · rintro w' ⟨s0, s1, s2, s3, s4⟩
                    go_simp
                    try (with_reducible rfl)
                  rotate_left
                  · simp only [Act.put, List.setIfInBounds_toArray, List.set_cons_zero, List.set_cons_succ]
                    rfl
                  refine take_ (i := 44) (N := some 126) (v := ?_) (a' := ?_) #[true, true, true, true, true, true, true, true, true, true, true, true, true, true, true, true, true, true, true, true, true, true, true, true, true, true, true, true, true, true, true, true, true, true, true, true, true, true, true, true, true, true, true, true, true] rfl rfl (take_of HT_.out (by kernel_rfl)) (fun _ _ _ h => h) (Or.inl ⟨by first | rfl | (go_simp; done), ?_⟩) hHeld ?_ ?_
                  rotate_left
                  · rintro w' ⟨s0, s1, s2, s3, s4⟩
                    go_simp
                    try (with_reducible rfl)
                  rotate_left
                  · simp only [Act.put, List.setIfInBounds_toArray, List.set_cons_zero, List.set_cons_succ]
                    rfl
                  refine done_ (done_of HT_.out (by kernel_rfl)) ?_
                  refine NoPanic.normal ?_
                  go_wp2
                  go_meet
                  exact ⟨rfl, HCH9.out.below hB, HRF9.out.still (Still50.of_below hB), below_then HBL9.out HBL9.out.size hB⟩
            case rest =>
              obtain ⟨rfl, hch, hrf, hbl⟩ := hcut
              have hkw : wrap64 ((i : Int) + 1) = ((i + 1 : Nat) : Int) := by have := HI.out.2; unfold wrap64; omega
              have HKW := Aside0.mk hkw
              have HCH9 := Aside0.mk hch
              have HRF9 := Aside0.mk hrf
              have HBL9 := Aside0.mk hbl
              clear hkw hch hrf hbl
              go_wp2
              exact ⟨⟨i + 1, j', k', Y', vs', Ax, cx, _, Ay, cy, _, by first | (with_reducible exact congrArg (Value.int .i64) HKW.out) | go_num, by have := HI.out.2; omega, HFIN.out.1, HFIN.out.2.1, HFIN.out.2.2.1, HFIN.out.2.2.2, HCH9.out, HRF9.out, HBL9.out⟩, by have := HI.out.2; simp [intOf]; omega⟩
  case rest =>
    go_wp2
    go_ret
    exact ⟨rfl, hcut⟩
end Go.Proofs.Ythlllcmffgdcmab.Src

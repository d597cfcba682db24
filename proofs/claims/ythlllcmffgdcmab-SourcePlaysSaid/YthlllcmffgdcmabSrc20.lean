/- A chain beside the document's two sources: what a draw does to all of them. -/
import Derived.Test.YthlllcmffgdcmabSrc19
import Derived.Test.YthlllcmffgdcmabSrc11
namespace Go.Proofs.Ythlllcmffgdcmab.Src
open Go.RowKit Go.Proofs.YthlllcmffgdcmabW.PrintWords Go.Proofs.YthlllcmffgdcmabW.PrintLast Go.Proofs.YthlllcmffgdcmabW.PrintMore
set_option linter.unusedVariables false
set_option linter.unusedSimpArgs false

/-- The document's sources and their rows are as they were. -/
def Still50 (w w' : World) : Prop := ∀ (i : Nat) (cs : Array Value) (t : TypeId), w.heap[i]? = some (.cells cs t (0, 0)) → t = 50 ∨ t = 57 → w'.heap[i]? = some (.cells cs t (0, 0))
theorem Still50.of_below {w w' : World} (h : Below w.heap.size w w') : Still50 w w' := fun i cs t hi _ => blk_below hi h
theorem Still50.refl (w : World) : Still50 w w := fun _ _ _ h _ => h
theorem Still50.trans {a b c : World} (h : Still50 a b) (h' : Still50 b c) : Still50 a c := fun i cs t hi ht => h' i cs t (h i cs t hi ht) ht
/-- The document's decisions that are left, in a row of their own. -/
def DecT (w : World) (A : Option Addr) (T : List (Int × Int)) : Prop := Decs w A T ∧ ∀ ad, A = some ad → 0 < T.length → ∃ cs, w.heap[ad.block]? = some (.cells cs 57 (0, 0))
theorem add_block (ad : Addr) (i : Nat) : (ad.add i).block = ad.block := by unfold Addr.add; split <;> rfl
theorem cell_same {w w' : World} {a : Addr} {v : Value} (h : w.cell? a = some v) (hb : w'.heap[a.block]? = w.heap[a.block]?) : w'.cell? a = some v := by simpa [World.cell?, hb] using h
theorem DecT.still {w w' : World} {A : Option Addr} {T : List (Int × Int)} (h : DecT w A T) (hs : Still50 w w') : DecT w' A T := by
  refine ⟨fun i hi => ?_, fun ad e hl => ?_⟩
  · obtain ⟨ad, e, h1, h2⟩ := h.1 i hi
    obtain ⟨cs, hc⟩ := h.2 ad e (by omega)
    have hb := (hs _ _ _ hc (.inr rfl)).trans hc.symm
    exact ⟨ad, e, cell_same h1 (by rw [add_block]; exact hb), cell_same h2 (by rw [add_block]; exact hb)⟩
  · obtain ⟨cs, hc⟩ := h.2 ad e hl
    exact ⟨cs, hs _ _ _ hc (.inr rfl)⟩
theorem own_still {w w' : World} {B n : Nat} {v : Value} {xs : List Value} (h : w.ownsRow B 57 2 v n xs) (hs : Still50 w w') : w'.ownsRow B 57 2 v n xs := own_move h fun k hk => by
  obtain ⟨cs, hc⟩ := own_typed h k hk
  exact (hs _ _ _ hc (.inr rfl)).trans hc.symm
theorem DecT.own {w : World} {B n c : Nat} {A : Option Addr} {T : List (Int × Int)} (h : w.ownsRow B 57 2 (.slice A n c) n (recs T)) (hn : T.length = n) : DecT w A T ∧ n ≤ c := by
  obtain ⟨A', c', e, hc, _, hd⟩ := decs_own h hn
  injection e with e1 _ e2
  subst e1; subst e2
  refine ⟨⟨hd, fun ad e hl => ?_⟩, hc⟩
  subst e
  have hb := h.2
  rcases hb with ⟨hb, _⟩ | ⟨g, cap, cur, hv, _, hh, _⟩
  · cases hb
  · injection hv with hv _ _
    injection hv with hv
    subst hv
    exact ⟨_, hh⟩

/-- The document's two sources: of a tape, of numbers. -/
structure Refs (B : Nat) (w0 wr : World) (zx zy : Nat) (T : List (Int × Int)) (N : List Int) (j k : Nat) (Y : List (Int × Int)) (Ax : Option Addr) (cx : Nat) (vx : Value) (Ay : Option Addr) (cy : Nat) (vy : Value) : Prop where
  bx : wr.heap[zx]? = some (.cells #[.slice none 0 0, .slice Ax (T.length - j) cx, .bool true, .bool false, vx] 50 (0, 0))
  yb : wr.heap[zy]? = some (.cells #[.slice Ay (N.length - k) cy, .slice none 0 0, .bool false, .bool false, vy] 50 (0, 0))
  ne : zx ≠ zy
  gx : B ≤ zx
  gy : B ≤ zy
  rx : wr.ownsRow B 57 2 vx j (recs (T.take j))
  ry : wr.ownsRow B 57 2 vy k (recs Y)
  told : DecT wr Ax (T.drop j)
  ccx : T.length - j ≤ cx
  ccy : N.length - k ≤ cy
  rn : ReadsInt w0 .u64 Ay (N.length - k) (N.drop k)
theorem Refs.still {B : Nat} {w0 wr w' : World} {zx zy : Nat} {T : List (Int × Int)} {N : List Int} {j k : Nat} {Y : List (Int × Int)} {Ax : Option Addr} {cx : Nat} {vx : Value} {Ay : Option Addr} {cy : Nat} {vy : Value} (h : Refs B w0 wr zx zy T N j k Y Ax cx vx Ay cy vy) (hs : Still50 wr w') : Refs B w0 w' zx zy T N j k Y Ax cx vx Ay cy vy :=
  ⟨hs _ _ _ h.bx (.inl rfl), hs _ _ _ h.yb (.inl rfl), h.ne, h.gx, h.gy, own_still h.rx hs, own_still h.ry hs, h.told.still hs, h.ccx, h.ccy, h.rn⟩
/-- The program's source: a chain, what was drawn of it. -/
structure Chs (B : Nat) (wr : World) (s o : Nat) (T : List (Int × Int)) (vt : Value) (N : List Int) (vn : Value) (j k : Nat) (Y : List (Int × Int)) (vs : Value) : Prop where
  chn : Chn B wr o T j vt N k vn
  src : Srce B wr s 65 66 o vs (j + k) (recs (T.take j ++ Y)) .nilFunc
  off : Off (fun i => i = o ∨ vt.ownBlock = some i ∨ vn.ownBlock = some i) vs
theorem Chs.below {B : Nat} {w w' : World} {s o : Nat} {T : List (Int × Int)} {vt : Value} {N : List Int} {vn : Value} {j k : Nat} {Y : List (Int × Int)} {vs : Value} (h : Chs B w s o T vt N vn j k Y vs) (hb : Below w.heap.size w w') : Chs B w' s o T vt N vn j k Y vs := ⟨h.chn.below hb, h.src.below hb, h.off⟩
theorem still_kept {B : Nat} {w w' : World} {s o : Nat} {T : List (Int × Int)} {vt : Value} {N : List Int} {vn : Value} {j k : Nat} {Y : List (Int × Int)} {vs : Value} (h : Chs B w s o T vt N vn j k Y vs) (hk : Kept w w' (fun k => k = o ∨ k = s ∨ vs.ownBlock = some k)) : Still50 w w' := fun i cs t hi ht => blk_kept hi hk (by
  rintro (rfl | rfl | h1)
  · have := h.chn.blk
    rw [this] at hi
    injection hi with hi
    injection hi with _ hi _
    subst hi
    rcases ht with ht | ht <;> cases ht
  · have := h.src.blk
    rw [this] at hi
    injection hi with hi
    injection hi with _ hi _
    subst hi
    rcases ht with ht | ht <;> cases ht
  · obtain ⟨cs', hc⟩ := own_typed h.src.row i h1
    rw [hc] at hi
    injection hi with hi
    injection hi with _ hi _
    subst hi
    rcases ht with ht | ht <;> cases ht)
theorem Reach.undrew {o n : Nat} {w w' : World} (h : Reach o (w.drewN n) w') : Reach o w w' := ⟨h.os, h.tape, h.output, h.size, h.block⟩
theorem take_snoc (T : List (Int × Int)) (j : Nat) (p : Int × Int) (hj : j < T.length) (hp : T.getD j (0, 0) = p) : T.take (j + 1) = T.take j ++ [p] := by
  rw [List.take_succ_eq_append_getElem hj, ← hp, List.getD_eq_getElem?_getD, List.getElem?_eq_getElem hj]
  rfl
theorem drop_cons (T : List (Int × Int)) (j : Nat) (p : Int × Int) (hj : j < T.length) (hp : T.getD j (0, 0) = p) : T.drop j = p :: T.drop (j + 1) := by
  rw [List.drop_eq_getElem_cons hj, ← hp, List.getD_eq_getElem?_getD, List.getElem?_eq_getElem hj]
  rfl

/-- The five numbers of what stands where another is asked. -/
def uV (u0 u1 u2 u3 u4 : Int) : Array Value := #[.int .i64 u0, .int .i64 u1, .int .i64 u2, .int .i64 u3, .int .u64 u4]
/-- A draw of a chain: what comes, and what stands behind it. -/
structure CDraw (B : Nat) (s o zx zy : Nat) (T : List (Int × Int)) (vt : Value) (N : List Int) (vn : Value) (j k : Nat) (Y : List (Int × Int)) (kind n : Int) (v en u0 u1 u2 u3 u4 : Int) (j' k' : Nat) (Y' : List (Int × Int)) : Prop where
  own : ∀ W vs, B ≤ W.heap.size → Chs B W s o T vt N vn j k Y vs → Calls Try.prog 21 #[.pointer (some ⟨s, 0, none⟩), .int .i64 kind, .int .i64 n] W fun e w' => e = .returned (.tuple #[.int .i64 v, .int .i64 en, .agg (uV u0 u1 u2 u3 u4)]) ∧ ∃ vs', Chs B w' s o T vt N vn j' k' Y' vs' ∧ Still50 W w' ∧ Below B W w'
  x : j < T.length → ∀ W Ax cx vx, DecT W Ax (T.drop j) → T.length - j ≤ cx → W.ownsRow B 57 2 vx j (recs (T.take j)) → B ≤ W.heap.size →
    Calls Try.prog 29 #[.agg #[.slice none 0 0, .slice Ax (T.length - j) cx, .bool true, .bool false, vx], .int .i64 kind, .int .i64 n] W fun e w' => ∃ Ax' cx' vx', e = .returned (.tuple #[.agg #[.slice none 0 0, .slice Ax' (T.length - j') cx', .bool true, .bool false, vx'], .int .i64 v, .int .i64 en]) ∧ DecT w' Ax' (T.drop j') ∧ T.length - j' ≤ cx' ∧ w'.ownsRow B 57 2 vx' j' (recs (T.take j')) ∧ Below W.heap.size W w'
  xk : j < T.length → k' = k ∧ Y' = Y
  y : ¬ j < T.length → ∀ w0 W Ay cy vy, ReadsInt w0 .u64 Ay (N.length - k) (N.drop k) → Below w0.heap.size w0 W → N.length - k ≤ cy → W.ownsRow B 57 2 vy k (recs Y) → B ≤ W.heap.size →
    Calls Try.prog 29 #[.agg #[.slice Ay (N.length - k) cy, .slice none 0 0, .bool false, .bool false, vy], .int .i64 kind, .int .i64 n] W fun e w' => ∃ Ay' cy' vy', e = .returned (.tuple #[.agg #[.slice Ay' (N.length - k') cy', .slice none 0 0, .bool false, .bool false, vy'], .int .i64 v, .int .i64 en]) ∧ ReadsInt w0 .u64 Ay' (N.length - k') (N.drop k') ∧ N.length - k' ≤ cy' ∧ w'.ownsRow B 57 2 vy' k' (recs Y') ∧ Below W.heap.size W w'
  yj : ¬ j < T.length → j' = j
  jn : j' ≤ T.length
  kn : k' ≤ N.length
  yl : Y'.length = k'
  sq : k' = 0 ∨ j' = T.length
  en2 : en = 0 ∨ en = 1 ∨ (en = 2 ∧ u0 = (j' : Int))

theorem tape_ok (B s o zx zy : Nat) (T : List (Int × Int)) (vt : Value) (N : List Int) (vn : Value) (j k : Nat) (Y : List (Int × Int)) (kind n m v : Int) (hT : T.length ≤ 40) (hN : N.length ≤ 40) (hj : j < T.length) (hk : k ≤ N.length) (hY : Y.length = k) (hsq : k = 0 ∨ j = T.length) (hm : (if n < 1 then 1 else n) = m) (hm2 : m ≤ 9223372036854775807) (hx : T.getD j (0, 0) = (kind, v)) (hv : v < m) (hv0 : 0 ≤ v) (hoB : B ≤ o) :
    CDraw B s o zx zy T vt N vn j k Y kind n v 0 0 0 0 0 0 (j + 1) k Y := by
  have hm1 : 1 ≤ m := by rw [← hm]; split <;> omega
  have hk0 : k = 0 := by omega
  have hY0 : Y = [] := List.eq_nil_of_length_eq_zero (by omega)
  refine ⟨fun W vs hBW h => ?_, fun _ W Ax cx vx hd hc hr hBW => ?_, fun _ => ⟨rfl, rfl⟩, fun h => absurd hj h, fun h => absurd hj h, by omega, hk, hY, .inl hk0, .inl rfl⟩
  · have hg := gdraw21_ok B s 65 66 o _ _ _ (gen_chn B o T j vt N k vn) (gen_chn B o T (j + 1) vt N k vn) (.inl rfl) vs (j + k) (recs (T.take j ++ Y)) kind n m v W h.chn h.src h.off hBW hoB callFunc65 hm hv0 (by omega) (by omega)
      (fun W hJ hBW => cdraw_t B o T j vt N k vn kind m W _ (fun w' => Reach o W w' ∧ Chn B w' o T (j + 1) vt N k vn) hJ hj (by omega) (fun q => (ctdraw_ok B o T j vt N k vn kind m v (W.drewN q) (hJ.drewN q) hBW hj (by omega) hx hv (by omega) hm2).mono fun e w' ⟨h1, h2, h3⟩ => ⟨h1, h2.undrew, h3⟩))
    refine hg.mono fun e w' ⟨h1, vs', h2, h3, h4, h5, h6⟩ => ⟨h1, vs', ⟨h2, ?_, h4⟩, still_kept h h5, h6⟩
    rw [take_snoc T j _ hj hx, hY0, List.append_nil, show j + 1 + k = j + k + 1 by omega, recs_append]
    rw [hY0, List.append_nil] at h3
    exact h3
  · have hdc := drop_cons T j _ hj hx
    have el : (T.drop (j + 1)).length + 1 = T.length - j := by rw [List.length_drop]; omega
    have hr' : W.ownsRow B 57 2 vx (T.take j).length (recs (T.take j)) := by rw [List.length_take, Nat.min_eq_left (by omega)]; exact hr
    have hd' := hd.1
    rw [hdc] at hd'
    have := rdraw_tape B none 0 0 Ax cx vx (T.take j) (T.drop (j + 1)) kind n m v W hd' (by rw [el]; exact hc) hm hm2 hv0 hv hr' (by rw [List.length_take]; omega)
    rw [el] at this
    refine this.mono fun e w' ⟨A, v5, h1, h2, h3, h4, h5⟩ => ⟨A, cx - 1, v5, ?_, ⟨h2, fun ad ea hl => ?_⟩, by omega, ?_, h4⟩
    · rw [h1, List.length_drop]
    · rw [ea] at h5
      have hc := (hd.still (Still50.of_below h4)).2
      unfold tlA at h5
      split at h5
      · exact hc ad h5.symm (by rw [hdc]; simp)
      · cases Ax with
        | none => cases h5
        | some a0 =>
          injection h5 with h5
          obtain ⟨cs, hcs⟩ := hc a0 rfl (by rw [hdc]; simp)
          exact ⟨cs, by rw [h5]; exact hcs⟩
    · rw [take_snoc T j _ hj hx]
      rw [List.length_take, Nat.min_eq_left (by omega)] at h3
      exact own_weaken h3 hBW

theorem tape_un (B s o zx zy : Nat) (T : List (Int × Int)) (vt : Value) (N : List Int) (vn : Value) (j k : Nat) (Y : List (Int × Int)) (kind n m rk rn : Int) (hT : T.length ≤ 40) (hN : N.length ≤ 40) (hj : j < T.length) (hk : k ≤ N.length) (hY : Y.length = k) (hsq : k = 0 ∨ j = T.length) (hm : (if n < 1 then 1 else n) = m) (hm2 : m ≤ 9223372036854775807) (hx : T.getD j (0, 0) = (rk, rn)) (hbad : rk ≠ kind ∨ (rk = kind ∧ m ≤ rn)) :
    CDraw B s o zx zy T vt N vn j k Y kind n 0 2 j kind m rk rn j k Y := by
  have hm1 : 1 ≤ m := by rw [← hm]; split <;> omega
  refine ⟨fun W vs hBW h => ?_, fun _ W Ax cx vx hd hc hr hBW => ?_, fun _ => ⟨rfl, rfl⟩, fun h => absurd hj h, fun h => absurd hj h, by omega, hk, hY, hsq, .inr (.inr ⟨rfl, rfl⟩)⟩
  · have hg := gdraw21_un B s 65 66 o _ (fun a b hJ hb => (gen_chn B o T j vt N k vn).below hJ hb) vs (j + k) (recs (T.take j ++ Y)) kind n m j kind m rk rn .nilFunc W h.chn h.src callFunc65 hm
      (fun W hJ => cdraw_t_panics B o T j vt N k vn kind m W _ (fun w' => Below W.heap.size W w') hJ hj (by omega) (fun q => by
        have hJ' := hJ.drewN q
        obtain ⟨g, c, rfl, x0, x1⟩ := rows_at hJ'.rowT hj
        rw [hx] at x0 x1
        exact (tdraw_un o g c j T.length kind m rk rn (W.drewN q) ((blk_cell hJ'.blk 0).trans rfl) ((blk_cell hJ'.blk 1).trans rfl) x0 x1 hj (by omega) (by omega) hm2 hbad).mono fun e w' ⟨h1, h2⟩ => ⟨h1, ⟨h2.os, h2.tape, h2.output, h2.size, h2.block⟩⟩))
    exact hg.mono fun e w' ⟨h1, h2⟩ => ⟨h1, vs, h.below h2, Still50.of_below h2, h2.mono hBW⟩
  · have hdc := drop_cons T j _ hj hx
    have el : (T.drop (j + 1)).length + 1 = T.length - j := by rw [List.length_drop]; omega
    have hd' := hd.1
    rw [hdc] at hd'
    obtain ⟨A4, c4, rfl⟩ := own_slice hr
    have := if h1 : rk ≠ kind then rdraw_kind none 0 0 Ax cx A4 j c4 (T.drop (j + 1)) kind n m rk rn W hd' hm hm2 h1
      else rdraw_big none 0 0 Ax cx A4 j c4 (T.drop (j + 1)) kind n m rk rn W hd' hm hm2 (by rcases hbad with h2 | h2; exact absurd h2 h1; exact h2.1) (by rcases hbad with h2 | h2; exact absurd h2 h1; exact h2.2)
    rw [el] at this
    exact this.mono fun e w' ⟨h1, h2⟩ => ⟨Ax, cx, _, h1, hd.still (Still50.of_below h2), hc, pw_own_below hr h2, h2⟩

theorem num_ok (B s o zx zy : Nat) (T : List (Int × Int)) (vt : Value) (N : List Int) (vn : Value) (k : Nat) (Y : List (Int × Int)) (kind n m x v : Int) (hT : T.length ≤ 40) (hN : N.length ≤ 40) (hk : k < N.length) (hY : Y.length = k) (hm : (if n < 1 then 1 else n) = m) (hm2 : m ≤ 9223372036854775807) (hx : rd N (k : Int) = x) (hx0 : 0 ≤ x) (hx1 : x < 18446744073709551616) (hv : x % m = v) (hoB : B ≤ o) :
    CDraw B s o zx zy T vt N vn T.length k Y kind n v 0 0 0 0 0 0 T.length (k + 1) (Y ++ [(kind, v)]) := by
  have hm1 : 1 ≤ m := by rw [← hm]; split <;> omega
  have hv0 : 0 ≤ v := by rw [← hv]; exact Int.emod_nonneg _ (by omega)
  have hv1 : v < m := by rw [← hv]; exact Int.emod_lt_of_pos _ (by omega)
  refine ⟨fun W vs hBW h => ?_, fun h => absurd h (Nat.lt_irrefl _), fun h => absurd h (Nat.lt_irrefl _), fun _ w0 W Ay cy vy hd hb hc hr hBW => ?_, fun _ => rfl, Nat.le_refl _, by omega, by simp [hY], .inr rfl, .inl rfl⟩
  · have hg := gdraw21_ok B s 65 66 o _ _ _ (gen_chn B o T T.length vt N k vn) (gen_chn B o T T.length vt N (k + 1) vn) (.inl rfl) vs (T.length + k) (recs (T.take T.length ++ Y)) kind n m v W h.chn h.src h.off hBW hoB callFunc65 hm hv0 (by omega) (by omega)
      (fun W hJ hBW => cdraw_n B o T vt N k vn kind m W _ (fun w' => Reach o W w' ∧ Chn B w' o T T.length vt N (k + 1) vn) hJ (by omega) (fun q => by
        have h := cndraw_ok B o T T.length vt N k vn kind m (W.drewN q) (hJ.drewN q) hk hm1 hm2 (by rw [hx]; exact hx0)
        rw [hx, hv] at h
        exact h.mono fun e w' ⟨h1, h2, h3⟩ => ⟨h1, h2.undrew, h3⟩))
    refine hg.mono fun e w' ⟨h1, vs', h2, h3, h4, h5, h6⟩ => ⟨h1, vs', ⟨h2, ?_, h4⟩, still_kept h h5, h6⟩
    rw [← List.append_assoc, recs_append, ← Nat.add_assoc]
    exact h3
  · have hnl : 0 < (N.drop k).length := by rw [List.length_drop]; omega
    have hl : (N.drop k).length = N.length - k := List.length_drop
    have h0 : rd (N.drop k) 0 = x := by
      rw [← hx]
      simp [rd, List.getD_eq_getElem?_getD, List.getElem?_drop]
    rw [← hl] at hd hc ⊢
    have := rdraw_num B Ay cy (N.drop k) none 0 0 vy Y kind n m x v W (hd.below hb) hc hnl h0 hx0 hm hm2 hx1 hv (by rw [hY]; exact hr) (by omega)
    refine this.mono fun e w' ⟨A, v5, h1, h2, h3, h4, h5⟩ => ?_
    obtain ⟨ad, hA, _⟩ := hd.at_ 0 (by omega) (by omega)
    rw [hA] at h5 hd
    have ht := reads_tail hd hc h5.symm
    rw [List.tail_drop, hl, show N.length - k - 1 = N.length - (k + 1) by omega] at ht
    rw [hl, show N.length - k - 1 = N.length - (k + 1) by omega] at h1
    refine ⟨A, cy - 1, v5, h1, ht, by omega, ?_, h4⟩
    rw [hY] at h3
    exact own_weaken h3 hBW

theorem chain_dry (B s o zx zy : Nat) (T : List (Int × Int)) (vt : Value) (N : List Int) (vn : Value) (Y : List (Int × Int)) (kind n m : Int) (hT : T.length ≤ 40) (hN : N.length ≤ 40) (hY : Y.length = N.length) (hm : (if n < 1 then 1 else n) = m) :
    CDraw B s o zx zy T vt N vn T.length N.length Y kind n 0 1 0 0 0 0 0 T.length N.length Y := by
  refine ⟨fun W vs hBW h => ?_, fun h => absurd h (Nat.lt_irrefl _), fun h => absurd h (Nat.lt_irrefl _), fun _ w0 W Ay cy vy hd hb hc hr hBW => ?_, fun _ => rfl, Nat.le_refl _, Nat.le_refl _, hY, .inr rfl, .inr (.inl rfl)⟩
  · have hg := gdraw21_dry B s 65 66 o _ (fun a b hJ hb => (gen_chn B o T T.length vt N N.length vn).below hJ hb) vs (T.length + N.length) (recs (T.take T.length ++ Y)) kind n m .nilFunc W h.chn h.src callFunc65 hm
      (fun W hJ => cdraw_n_panics B o T vt N N.length vn kind m W _ (fun w' => Below W.heap.size W w') hJ (by omega) (fun q => (cndraw_dry B o T T.length vt N vn kind m (W.drewN q) (hJ.drewN q)).mono fun e w' ⟨h1, h2⟩ => ⟨h1, ⟨h2.os, h2.tape, h2.output, h2.size, h2.block⟩⟩))
    exact hg.mono fun e w' ⟨h1, h2⟩ => ⟨h1, vs, h.below h2, Still50.of_below h2, h2.mono hBW⟩
  · obtain ⟨A4, c4, rfl⟩ := own_slice hr
    rw [Nat.sub_self] at hd hc ⊢
    exact (rdraw_num_dry Ay cy none 0 0 A4 N.length c4 kind n W).mono fun e w' ⟨h1, h2⟩ => ⟨Ay, cy, _, h1, hd, hc, pw_own_below hr h2, h2⟩

/-- Whatever is asked. -/
theorem chain_draw (B s o zx zy : Nat) (T : List (Int × Int)) (vt : Value) (N : List Int) (vn : Value) (j k : Nat) (Y : List (Int × Int)) (kind n m : Int) (hT : T.length ≤ 40) (hN : N.length ≤ 40) (hj : j ≤ T.length) (hk : k ≤ N.length) (hY : Y.length = k) (hsq : k = 0 ∨ j = T.length) (hm : (if n < 1 then 1 else n) = m) (hm2 : m ≤ 9223372036854775807) (hTm : ∀ x ∈ T, MayBe x) (hNm : ∀ x ∈ N, 0 ≤ x ∧ x < 18446744073709551616) (hoB : B ≤ o) :
    ∃ v en u0 u1 u2 u3 u4 j' k' Y', CDraw B s o zx zy T vt N vn j k Y kind n v en u0 u1 u2 u3 u4 j' k' Y' := by
  rcases Nat.lt_or_ge j T.length with h | h
  · obtain ⟨rk, rn, hx⟩ : ∃ rk rn, T.getD j (0, 0) = (rk, rn) := ⟨_, _, rfl⟩
    have hmem : (rk, rn) ∈ T := by
      rw [← hx, List.getD_eq_getElem?_getD, List.getElem?_eq_getElem h]
      exact List.getElem_mem h
    have hb := hTm _ hmem
    by_cases hk1 : rk = kind
    · by_cases hle : m ≤ rn
      · exact ⟨_, _, _, _, _, _, _, _, _, _, tape_un B s o zx zy T vt N vn j k Y kind n m rk rn hT hN h hk hY hsq hm hm2 hx (.inr ⟨hk1, hle⟩)⟩
      · subst hk1
        exact ⟨_, _, _, _, _, _, _, _, _, _, tape_ok B s o zx zy T vt N vn j k Y rk n m rn hT hN h hk hY hsq hm hm2 hx (by omega) hb.2.2.1 hoB⟩
    · exact ⟨_, _, _, _, _, _, _, _, _, _, tape_un B s o zx zy T vt N vn j k Y kind n m rk rn hT hN h hk hY hsq hm hm2 hx (.inl hk1)⟩
  · obtain rfl : j = T.length := by omega
    rcases Nat.lt_or_ge k N.length with h2 | h2
    · have hmem : rd N (k : Int) ∈ N := by
        simp [rd, List.getD_eq_getElem?_getD, h2]
      exact ⟨_, _, _, _, _, _, _, _, _, _, num_ok B s o zx zy T vt N vn k Y kind n m _ _ hT hN h2 hY hm hm2 rfl (hNm _ hmem).1 (hNm _ hmem).2 rfl hoB⟩
    · obtain rfl : k = N.length := by omega
      exact ⟨_, _, _, _, _, _, _, _, _, _, chain_dry B s o zx zy T vt N vn Y kind n m hT hN hY hm⟩
end Go.Proofs.Ythlllcmffgdcmab.Src

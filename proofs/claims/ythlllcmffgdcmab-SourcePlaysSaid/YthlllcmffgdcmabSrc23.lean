/- A source of numbers or of decisions, seen or not, beside the document's: what a draw does to both. -/
import Derived.Test.YthlllcmffgdcmabSrc22
namespace Go.Proofs.Ythlllcmffgdcmab.Src
open Go.RowKit Go.Proofs.YthlllcmffgdcmabW.PrintWords Go.Proofs.YthlllcmffgdcmabW.PrintLast Go.Proofs.YthlllcmffgdcmabW.PrintMore
set_option linter.unusedVariables false
set_option linter.unusedSimpArgs false

/-- The generator: of decisions, or of numbers. -/
def GenJ (tape : Bool) (B o : Nat) (T : List (Int × Int)) (N : List Int) (vl : Value) (p : Nat) (W : World) : Prop := if tape = true then Tap B W o T p vl else Orc B W o N p vl
def kOf (tape : Bool) : Nat := if tape = true then 63 else 59
def lOf (tape : Bool) : Nat := if tape = true then 64 else 60
def totOf (tape : Bool) (T : List (Int × Int)) (N : List Int) : Nat := if tape = true then T.length else N.length
def FOf (o : Nat) (vl : Value) (i : Nat) : Prop := i = o ∨ vl.ownBlock = some i
theorem gen_j (tape : Bool) (B o : Nat) (T : List (Int × Int)) (N : List Int) (vl : Value) (p : Nat) : Gen (FOf o vl) (GenJ tape B o T N vl p) := by
  cases tape
  · exact gen_orc B o N p vl
  · exact gen_tap B o T p vl
/-- What is left of the document's source. -/
def RefOk (tape : Bool) (w0 W : World) (T : List (Int × Int)) (N : List Int) (p : Nat) (A1 : Option Addr) (na c1 : Nat) (A2 : Option Addr) (nb c2 : Nat) : Prop :=
  if tape = true then (A1 = none ∧ na = 0 ∧ c1 = 0) ∧ nb = T.length - p ∧ DecT W A2 (T.drop p) ∧ T.length - p ≤ c2
  else (A2 = none ∧ nb = 0 ∧ c2 = 0) ∧ na = N.length - p ∧ ReadsInt w0 .u64 A1 (N.length - p) (N.drop p) ∧ N.length - p ≤ c1
theorem RefOk.still {tape : Bool} {w0 W W' : World} {T : List (Int × Int)} {N : List Int} {p : Nat} {A1 : Option Addr} {na c1 : Nat} {A2 : Option Addr} {nb c2 : Nat} (h : RefOk tape w0 W T N p A1 na c1 A2 nb c2) (hs : Still50 W W') : RefOk tape w0 W' T N p A1 na c1 A2 nb c2 := by
  cases tape
  · exact h
  · exact ⟨h.1, h.2.1, h.2.2.1.still hs, h.2.2.2⟩
theorem RefOk.left {tape : Bool} {w0 W : World} {T : List (Int × Int)} {N : List Int} {p : Nat} {A1 : Option Addr} {na c1 : Nat} {A2 : Option Addr} {nb c2 : Nat} (h : RefOk tape w0 W T N p A1 na c1 A2 nb c2) (hp : p ≤ totOf tape T N) : ((nb : Int) + (na : Int)) = (totOf tape T N : Int) - p := by
  cases tape
  · obtain ⟨⟨_, h1, _⟩, h2, _⟩ := h
    rw [h1, h2]
    unfold totOf at hp ⊢
    simp only [Bool.false_eq_true, if_false] at hp ⊢
    omega
  · obtain ⟨⟨_, h1, _⟩, h2, _⟩ := h
    rw [h1, h2]
    unfold totOf at hp ⊢
    simp only [if_true] at hp ⊢
    omega
theorem still_sn {see : Value} {B : Nat} {F : Nat → Prop} {J : World → Prop} {w w' : World} {s K L o : Nat} {vt : Value} {nt : Nat} {rs : List Value} {zs : Nat} {vn : Value} {S : List (Int × Int)} (h : Sn see B F w s K L o vt nt rs zs vn S) (ho : ∃ cs t, w.heap[o]? = some (.cells cs t (0, 0)) ∧ t ≠ 50 ∧ t ≠ 57) (hk : Kept w w' (fun k => k = o ∨ k = s ∨ vt.ownBlock = some k ∨ k = zs ∨ vn.ownBlock = some k)) : Still50 w w' := fun i cs t hi ht => blk_kept hi hk (by
  have key : ∀ {cs' : Array Value} {t' : TypeId}, w.heap[i]? = some (.cells cs' t' (0, 0)) → t' ≠ 50 → t' ≠ 57 → False := fun hc h1 h2 => by
    rw [hc] at hi
    injection hi with hi
    injection hi with _ hi _
    subst hi
    rcases ht with ht | ht
    · exact h1 ht
    · exact h2 ht
  rintro (rfl | rfl | h1 | rfl | h1)
  · obtain ⟨cs', t', hc, h1, h2⟩ := ho
    exact key hc h1 h2
  · exact key h.src.blk (by decide) (by decide)
  · obtain ⟨cs', hc⟩ := own_typed h.src.row i h1
    exact key hc (by decide) (by decide)
  · exact key h.seen.blk (by decide) (by decide)
  · obtain ⟨cs', hc⟩ := own_typed h.seen.row i h1
    exact key hc (by decide) (by decide))
theorem genj_o {tape : Bool} {B o : Nat} {T : List (Int × Int)} {N : List Int} {vl : Value} {p : Nat} {W : World} (h : GenJ tape B o T N vl p W) : B ≤ o ∧ ∃ cs t, W.heap[o]? = some (.cells cs t (0, 0)) ∧ t ≠ 50 ∧ t ≠ 57 := by
  cases tape
  · exact ⟨h.ge, _, _, h.blk, by decide, by decide⟩
  · exact ⟨h.ge, _, _, h.blk, by decide, by decide⟩
theorem genj_z {tape : Bool} {B o : Nat} {T : List (Int × Int)} {N : List Int} {vl : Value} {p : Nat} {W : World} (h : GenJ tape B o T N vl p W) {zs : Nat} {cs : Array Value} (hz : W.heap[zs]? = some (.cells cs 45 (0, 0))) : ∀ i, FOf o vl i → i ≠ zs := by
  cases tape
  · rintro i (rfl | hi)
    · exact blk_ne h.blk hz (by decide)
    · obtain ⟨cs', hc⟩ := own_typed h.row i hi
      exact blk_ne hc hz (by decide)
  · rintro i (rfl | hi)
    · exact blk_ne h.blk hz (by decide)
    · obtain ⟨cs', hc⟩ := own_typed h.row i hi
      exact blk_ne hc hz (by decide)
def seeOf (watched : Bool) (zs : Nat) : Value := if watched = true then seeV zs else .nilFunc

/-- What a draw does: to the program's source and what is seen; to the document's. -/
structure PDraw (tape watched : Bool) (B s o zs : Nat) (T : List (Int × Int)) (N : List Int) (vl : Value) (p : Nat) (V : List (Int × Int)) (kind n m : Int) (v en u0 u1 u2 u3 u4 : Int) (p' : Nat) (V' : List (Int × Int)) : Prop where
  own : ∀ W vt vn S, B ≤ W.heap.size → S.length ≤ 1000 → GenJ tape B o T N vl p W → Sn (seeOf watched zs) B (FOf o vl) W s (kOf tape) (lOf tape) o vt p (recs V) zs vn S →
    Calls Try.prog 21 #[.pointer (some ⟨s, 0, none⟩), .int .i64 kind, .int .i64 n] W fun e w' => e = .returned (.tuple #[.int .i64 v, .int .i64 en, .agg (uV u0 u1 u2 u3 u4)]) ∧
      ∃ vt' vn', GenJ tape B o T N vl p' w' ∧ Sn (seeOf watched zs) B (FOf o vl) w' s (kOf tape) (lOf tape) o vt' p' (recs V') zs vn' (if watched = true then S ++ V'.drop p else S) ∧ Still50 W w' ∧ Below B W w'
  ref : ∀ w0 W A1 na c1 A2 nb c2 vx, RefOk tape w0 W T N p A1 na c1 A2 nb c2 → Below w0.heap.size w0 W → W.ownsRow B 57 2 vx p (recs V) → B ≤ W.heap.size →
    Calls Try.prog 29 #[.agg #[.slice A1 na c1, .slice A2 nb c2, .bool tape, .bool false, vx], .int .i64 kind, .int .i64 n] W fun e w' => ∃ A1' na' c1' A2' nb' c2' vx',
      e = .returned (.tuple #[.agg #[.slice A1' na' c1', .slice A2' nb' c2', .bool tape, .bool false, vx'], .int .i64 v, .int .i64 en]) ∧ RefOk tape w0 w' T N p' A1' na' c1' A2' nb' c2' ∧ w'.ownsRow B 57 2 vx' p' (recs V') ∧ Below W.heap.size W w'
  un : (en = 2 ∧ u0 = (p' : Int) ∧ u1 = kind ∧ u2 = m ∧ tape = true ∧ p' < T.length ∧ T.getD p' (0, 0) = (u3, u4)) ∨ ((en = 0 ∨ en = 1) ∧ u0 = 0 ∧ u1 = 0 ∧ u2 = 0 ∧ u3 = 0 ∧ u4 = 0)
  pn : p' ≤ totOf tape T N
  vl : V'.length = p'
  pp : p ≤ p'
  vv : V'.take p = V

theorem p_tape_ok (watched : Bool) (B s o zs : Nat) (T : List (Int × Int)) (N : List Int) (vl : Value) (p : Nat) (V : List (Int × Int)) (kind n m v : Int) (hT : T.length ≤ 40) (hp : p < T.length) (hV : V.length = p) (hm : (if n < 1 then 1 else n) = m) (hm2 : m ≤ 9223372036854775807) (hx : T.getD p (0, 0) = (kind, v)) (hv : v < m) (hv0 : 0 ≤ v) :
    PDraw true watched B s o zs T N vl p V kind n m v 0 0 0 0 0 0 (p + 1) (V ++ [(kind, v)]) := by
  have hm1 : 1 ≤ m := by rw [← hm]; split <;> omega
  refine ⟨fun W vt vn S hBW hSl hJ hN => ?_, fun w0 W A1 na c1 A2 nb c2 vx hr hb0 hrow hBW => ?_, .inr ⟨.inl rfl, rfl, rfl, rfl, rfl, rfl⟩, by show p + 1 ≤ T.length; omega, by simp [hV], by omega, by rw [← hV, List.take_left]⟩
  · have hrun : ∀ W, GenJ true B o T N vl p W → B ≤ W.heap.size → Calls Try.prog 63 #[.pointer (some ⟨o, 0, none⟩), .int .i64 kind, .int .i64 m] W fun e w' => e = .returned (.int .u64 v) ∧ Reach o W w' ∧ GenJ true B o T N vl (p + 1) w' :=
      fun W hj hb => tdraw_ok B o T p vl kind m v W hj hb hp (by omega) hx hv (by omega) hm2
    have ho := genj_o hJ
    have hz := genj_z hJ hN.seen.blk
    cases watched
    · refine (gdraw21_un_seen B s 63 64 o _ _ _ (gen_j true B o T N vl p) (gen_j true B o T N vl (p + 1)) (.inl rfl) vt p (recs V) kind n m v zs vn S W hJ hN hz hBW ho.1 callFunc63 hm hv0 (by omega) (by omega) hrun).mono fun e w' ⟨h1, vt', h2, h3, h4, h5⟩ => ⟨h1, vt', vn, h2, ?_, still_sn (J := fun _ => True) hN ho.2 (h4.mono fun k hk => hk.elim .inl (fun h => .inr (h.elim .inl (fun h => .inr (.inl h))))), h5⟩
      rw [recs_append]
      exact h3
    · refine (gdraw21_see B s 63 64 o _ _ _ (gen_j true B o T N vl p) (gen_j true B o T N vl (p + 1)) (.inl rfl) vt p (recs V) kind n m v zs vn S W hJ hN hz hSl hBW ho.1 callFunc63 hm hv0 (by omega) (by omega) hrun).mono fun e w' ⟨h1, vt', vn', h2, h3, h4, h5⟩ => ⟨h1, vt', vn', h2, ?_, still_sn (J := fun _ => True) hN ho.2 h4, h5⟩
      rw [recs_append, if_pos rfl, ← hV, List.drop_left, hV]
      exact h3
  · obtain ⟨⟨rfl, rfl, rfl⟩, rfl, hd, hc⟩ := hr
    have hdc := drop_cons T p _ hp hx
    have el : (T.drop (p + 1)).length + 1 = T.length - p := by rw [List.length_drop]; omega
    have hd' := hd.1
    rw [hdc] at hd'
    have := rdraw_tape B none 0 0 A2 c2 vx V (T.drop (p + 1)) kind n m v W hd' (by rw [el]; exact hc) hm hm2 hv0 hv (by rw [hV]; exact hrow) (by omega)
    rw [el] at this
    refine this.mono fun e w' ⟨A, v5, h1, h2, h3, h4, h5⟩ => ⟨none, 0, 0, A, T.length - (p + 1), c2 - 1, v5, ?_, ⟨⟨rfl, rfl, rfl⟩, rfl, ⟨h2, fun ad ea hl => ?_⟩, by omega⟩, ?_, h4⟩
    · rw [h1, List.length_drop]
    · rw [ea] at h5
      have hc := (hd.still (Still50.of_below h4)).2
      unfold tlA at h5
      split at h5
      · exact hc ad h5.symm (by rw [hdc]; simp)
      · cases A2 with
        | none => cases h5
        | some a0 =>
          injection h5 with h5
          obtain ⟨cs, hcs⟩ := hc a0 rfl (by rw [hdc]; simp)
          exact ⟨cs, by rw [h5]; exact hcs⟩
    · rw [hV] at h3
      exact own_weaken h3 hBW

theorem see_same {watched : Bool} {S V : List (Int × Int)} {p : Nat} (h : V.length = p) : (if watched = true then S ++ V.drop p else S) = S := by
  split
  · rw [← h, List.drop_length, List.append_nil]
  · rfl
theorem p_tape_un (watched : Bool) (B s o zs : Nat) (T : List (Int × Int)) (N : List Int) (vl : Value) (p : Nat) (V : List (Int × Int)) (kind n m rk rn : Int) (hT : T.length ≤ 40) (hp : p < T.length) (hV : V.length = p) (hm : (if n < 1 then 1 else n) = m) (hm2 : m ≤ 9223372036854775807) (hx : T.getD p (0, 0) = (rk, rn)) (hbad : rk ≠ kind ∨ (rk = kind ∧ m ≤ rn)) :
    PDraw true watched B s o zs T N vl p V kind n m 0 2 p kind m rk rn p V := by
  have hm1 : 1 ≤ m := by rw [← hm]; split <;> omega
  refine ⟨fun W vt vn S hBW hSl hJ hN => ?_, fun w0 W A1 na c1 A2 nb c2 vx hr hb0 hrow hBW => ?_, .inl ⟨rfl, rfl, rfl, rfl, rfl, hp, hx⟩, by show p ≤ T.length; omega, hV, Nat.le_refl _, by rw [← hV, List.take_length]⟩
  · have hg := gdraw21_un B s 63 64 o _ (fun a b hj hb => (gen_j true B o T N vl p).below hj hb) vt p (recs V) kind n m p kind m rk rn (seeOf watched zs) W hJ hN.src callFunc63 hm
      (fun W hj => by
        obtain ⟨g, c, he, x0, x1⟩ := Tap.at_ (show Tap B W o T p vl from hj) hp
        rw [hx] at x0 x1
        have hb : W.heap[o]? = some (.cells #[.slice (some ⟨g, 0, none⟩) T.length c, .int .i64 p] 147 (0, 0)) := by rw [← he]; exact (show Tap B W o T p vl from hj).blk
        exact tdraw_un o g c p T.length kind m rk rn W ((blk_cell hb 0).trans rfl) ((blk_cell hb 1).trans rfl) x0 x1 hp (by omega) (by omega) hm2 hbad)
    exact hg.mono fun e w' ⟨h1, h2⟩ => ⟨h1, vt, vn, (gen_j true B o T N vl p).below hJ h2, by rw [see_same hV]; exact hN.below h2, Still50.of_below h2, h2.mono hBW⟩
  · obtain ⟨⟨rfl, rfl, rfl⟩, rfl, hd, hc⟩ := hr
    have hdc := drop_cons T p _ hp hx
    have el : (T.drop (p + 1)).length + 1 = T.length - p := by rw [List.length_drop]; omega
    have hd' := hd.1
    rw [hdc] at hd'
    obtain ⟨A4, c4, rfl⟩ := own_slice hrow
    have := if h1 : rk ≠ kind then rdraw_kind none 0 0 A2 c2 A4 p c4 (T.drop (p + 1)) kind n m rk rn W hd' hm hm2 h1
      else rdraw_big none 0 0 A2 c2 A4 p c4 (T.drop (p + 1)) kind n m rk rn W hd' hm hm2 (by rcases hbad with h2 | h2; exact absurd h2 h1; exact h2.1) (by rcases hbad with h2 | h2; exact absurd h2 h1; exact h2.2)
    rw [el] at this
    exact this.mono fun e w' ⟨h1, h2⟩ => ⟨none, 0, 0, A2, _, c2, _, h1, ⟨⟨rfl, rfl, rfl⟩, rfl, hd.still (Still50.of_below h2), hc⟩, pw_own_below hrow h2, h2⟩
theorem p_tape_dry (watched : Bool) (B s o zs : Nat) (T : List (Int × Int)) (N : List Int) (vl : Value) (V : List (Int × Int)) (kind n m : Int) (hT : T.length ≤ 40) (hV : V.length = T.length) (hm : (if n < 1 then 1 else n) = m) :
    PDraw true watched B s o zs T N vl T.length V kind n m 0 1 0 0 0 0 0 T.length V := by
  refine ⟨fun W vt vn S hBW hSl hJ hN => ?_, fun w0 W A1 na c1 A2 nb c2 vx hr hb0 hrow hBW => ?_, .inr ⟨.inr rfl, rfl, rfl, rfl, rfl, rfl⟩, Nat.le_refl _, hV, Nat.le_refl _, by rw [← hV, List.take_length]⟩
  · have hg := gdraw21_dry B s 63 64 o _ (fun a b hj hb => (gen_j true B o T N vl T.length).below hj hb) vt T.length (recs V) kind n m (seeOf watched zs) W hJ hN.src callFunc63 hm
      (fun W hj => (tdraw_dry B o T vl kind m W hj).mono fun e w' ⟨h1, q, h2⟩ => ⟨h1, by rw [h2]; exact pw_below_drewN (Below.refl _ _) q⟩)
    exact hg.mono fun e w' ⟨h1, h2⟩ => ⟨h1, vt, vn, (gen_j true B o T N vl T.length).below hJ h2, by rw [see_same hV]; exact hN.below h2, Still50.of_below h2, h2.mono hBW⟩
  · obtain ⟨⟨rfl, rfl, rfl⟩, hnb, hd, hc⟩ := hr
    obtain rfl : nb = 0 := by omega
    obtain ⟨A4, c4, rfl⟩ := own_slice hrow
    have := rdraw_tape_dry none 0 0 A2 c2 A4 T.length c4 kind n W
    exact this.mono fun e w' ⟨h1, h2⟩ => ⟨none, 0, 0, A2, 0, c2, _, h1, ⟨⟨rfl, rfl, rfl⟩, hnb, hd.still (Still50.of_below h2), hc⟩, pw_own_below hrow h2, h2⟩
theorem p_num_ok (watched : Bool) (B s o zs : Nat) (T : List (Int × Int)) (N : List Int) (vl : Value) (p : Nat) (V : List (Int × Int)) (kind n m x v : Int) (hN40 : N.length ≤ 40) (hp : p < N.length) (hV : V.length = p) (hm : (if n < 1 then 1 else n) = m) (hm2 : m ≤ 9223372036854775807) (hx : rd N (p : Int) = x) (hx0 : 0 ≤ x) (hx1 : x < 18446744073709551616) (hv : x % m = v) :
    PDraw false watched B s o zs T N vl p V kind n m v 0 0 0 0 0 0 (p + 1) (V ++ [(kind, v)]) := by
  have hm1 : 1 ≤ m := by rw [← hm]; split <;> omega
  have hv0 : 0 ≤ v := by rw [← hv]; exact Int.emod_nonneg _ (by omega)
  have hv1 : v < m := by rw [← hv]; exact Int.emod_lt_of_pos _ (by omega)
  refine ⟨fun W vt vn S hBW hSl hJ hN => ?_, fun w0 W A1 na c1 A2 nb c2 vx hr hb0 hrow hBW => ?_, .inr ⟨.inl rfl, rfl, rfl, rfl, rfl, rfl⟩, by show p + 1 ≤ N.length; omega, by simp [hV], by omega, by rw [← hV, List.take_left]⟩
  · have hrun : ∀ W, GenJ false B o T N vl p W → B ≤ W.heap.size → Calls Try.prog 59 #[.pointer (some ⟨o, 0, none⟩), .int .i64 kind, .int .i64 m] W fun e w' => e = .returned (.int .u64 v) ∧ Reach o W w' ∧ GenJ false B o T N vl (p + 1) w' :=
      fun W hj hb => by
        have h := odraw_ok B o N p vl kind m W hj hp hm1 hm2 (by rw [hx]; exact hx0)
        rw [hx, hv] at h
        exact h.mono fun e w' ⟨h1, h2, h3⟩ => ⟨h1, h2.reach, h3⟩
    have ho := genj_o hJ
    have hz := genj_z hJ hN.seen.blk
    cases watched
    · refine (gdraw21_un_seen B s 59 60 o _ _ _ (gen_j false B o T N vl p) (gen_j false B o T N vl (p + 1)) (.inl rfl) vt p (recs V) kind n m v zs vn S W hJ hN hz hBW ho.1 callFunc59 hm hv0 (by omega) (by omega) hrun).mono fun e w' ⟨h1, vt', h2, h3, h4, h5⟩ => ⟨h1, vt', vn, h2, ?_, still_sn (J := fun _ => True) hN ho.2 (h4.mono fun k hk => hk.elim .inl (fun h => .inr (h.elim .inl (fun h => .inr (.inl h))))), h5⟩
      rw [recs_append]
      exact h3
    · refine (gdraw21_see B s 59 60 o _ _ _ (gen_j false B o T N vl p) (gen_j false B o T N vl (p + 1)) (.inl rfl) vt p (recs V) kind n m v zs vn S W hJ hN hz hSl hBW ho.1 callFunc59 hm hv0 (by omega) (by omega) hrun).mono fun e w' ⟨h1, vt', vn', h2, h3, h4, h5⟩ => ⟨h1, vt', vn', h2, ?_, still_sn (J := fun _ => True) hN ho.2 h4, h5⟩
      rw [recs_append, if_pos rfl, ← hV, List.drop_left, hV]
      exact h3
  · obtain ⟨⟨rfl, rfl, rfl⟩, rfl, hd, hc⟩ := hr
    have hnl : 0 < (N.drop p).length := by rw [List.length_drop]; omega
    have hl : (N.drop p).length = N.length - p := List.length_drop
    have h0 : rd (N.drop p) 0 = x := by
      rw [← hx]
      simp [rd, List.getD_eq_getElem?_getD, List.getElem?_drop]
    rw [← hl] at hd hc ⊢
    have := rdraw_num B A1 c1 (N.drop p) none 0 0 vx V kind n m x v W (hd.below hb0) hc hnl h0 hx0 hm hm2 hx1 hv (by rw [hV]; exact hrow) (by omega)
    refine this.mono fun e w' ⟨A, v5, h1, h2, h3, h4, h5⟩ => ?_
    obtain ⟨ad, hA, _⟩ := hd.at_ 0 (by omega) (by omega)
    rw [hA] at h5 hd
    have ht := reads_tail hd hc h5.symm
    rw [List.tail_drop, hl, show N.length - p - 1 = N.length - (p + 1) by omega] at ht
    rw [hl, show N.length - p - 1 = N.length - (p + 1) by omega] at h1
    refine ⟨A, _, c1 - 1, none, 0, 0, v5, h1, ⟨⟨rfl, rfl, rfl⟩, rfl, ht, by omega⟩, ?_, h4⟩
    rw [hV] at h3
    exact own_weaken h3 hBW
theorem p_num_dry (watched : Bool) (B s o zs : Nat) (T : List (Int × Int)) (N : List Int) (vl : Value) (V : List (Int × Int)) (kind n m : Int) (hN40 : N.length ≤ 40) (hV : V.length = N.length) (hm : (if n < 1 then 1 else n) = m) :
    PDraw false watched B s o zs T N vl N.length V kind n m 0 1 0 0 0 0 0 N.length V := by
  refine ⟨fun W vt vn S hBW hSl hJ hN => ?_, fun w0 W A1 na c1 A2 nb c2 vx hr hb0 hrow hBW => ?_, .inr ⟨.inr rfl, rfl, rfl, rfl, rfl, rfl⟩, Nat.le_refl _, hV, Nat.le_refl _, by rw [← hV, List.take_length]⟩
  · have hg := gdraw21_dry B s 59 60 o _ (fun a b hj hb => (gen_j false B o T N vl N.length).below hj hb) vt N.length (recs V) kind n m (seeOf watched zs) W hJ hN.src callFunc59 hm
      (fun W hj => (odraw_dry B o N vl kind m W hj).mono fun e w' ⟨h1, q, h2⟩ => ⟨h1, by rw [h2]; exact pw_below_drewN (Below.refl _ _) q⟩)
    exact hg.mono fun e w' ⟨h1, h2⟩ => ⟨h1, vt, vn, (gen_j false B o T N vl N.length).below hJ h2, by rw [see_same hV]; exact hN.below h2, Still50.of_below h2, h2.mono hBW⟩
  · obtain ⟨⟨rfl, rfl, rfl⟩, hna, hd, hc⟩ := hr
    obtain rfl : na = 0 := by omega
    obtain ⟨A4, c4, rfl⟩ := own_slice hrow
    have := rdraw_num_dry A1 c1 none 0 0 A4 N.length c4 kind n W
    exact this.mono fun e w' ⟨h1, h2⟩ => ⟨A1, 0, c1, none, 0, 0, _, h1, ⟨⟨rfl, rfl, rfl⟩, hna, hd, hc⟩, pw_own_below hrow h2, h2⟩

/-- Whatever is asked. -/
theorem plays_draw (tape watched : Bool) (B s o zs : Nat) (T : List (Int × Int)) (N : List Int) (vl : Value) (p : Nat) (V : List (Int × Int)) (kind n m : Int) (hT : T.length ≤ 40) (hN : N.length ≤ 40) (hp : p ≤ totOf tape T N) (hV : V.length = p) (hm : (if n < 1 then 1 else n) = m) (hm2 : m ≤ 9223372036854775807) (hTm : ∀ x ∈ T, MayBe x) (hNm : ∀ x ∈ N, 0 ≤ x ∧ x < 18446744073709551616) :
    ∃ v en u0 u1 u2 u3 u4 p' V', PDraw tape watched B s o zs T N vl p V kind n m v en u0 u1 u2 u3 u4 p' V' := by
  cases tape
  · replace hp : p ≤ N.length := hp
    rcases Nat.lt_or_ge p N.length with h | h
    · have hmem : rd N (p : Int) ∈ N := by simp [rd, List.getD_eq_getElem?_getD, h]
      exact ⟨_, _, _, _, _, _, _, _, _, p_num_ok watched B s o zs T N vl p V kind n m _ _ hN h hV hm hm2 rfl (hNm _ hmem).1 (hNm _ hmem).2 rfl⟩
    · obtain rfl : p = N.length := by omega
      exact ⟨_, _, _, _, _, _, _, _, _, p_num_dry watched B s o zs T N vl V kind n m hN hV hm⟩
  · replace hp : p ≤ T.length := hp
    rcases Nat.lt_or_ge p T.length with h | h
    · obtain ⟨rk, rn, hx⟩ : ∃ rk rn, T.getD p (0, 0) = (rk, rn) := ⟨_, _, rfl⟩
      have hmem : (rk, rn) ∈ T := by
        rw [← hx, List.getD_eq_getElem?_getD, List.getElem?_eq_getElem h]
        exact List.getElem_mem h
      have hb := hTm _ hmem
      by_cases hk1 : rk = kind
      · by_cases hle : m ≤ rn
        · exact ⟨_, _, _, _, _, _, _, _, _, p_tape_un watched B s o zs T N vl p V kind n m rk rn hT h hV hm hm2 hx (.inr ⟨hk1, hle⟩)⟩
        · subst hk1
          exact ⟨_, _, _, _, _, _, _, _, _, p_tape_ok watched B s o zs T N vl p V rk n m rn hT h hV hm hm2 hx (by omega) hb.2.2.1⟩
      · exact ⟨_, _, _, _, _, _, _, _, _, p_tape_un watched B s o zs T N vl p V kind n m rk rn hT h hV hm hm2 hx (.inl hk1)⟩
    · obtain rfl : p = T.length := by omega
      exact ⟨_, _, _, _, _, _, _, _, _, p_tape_dry watched B s o zs T N vl V kind n m hT hV hm⟩
theorem plays_left (tape : Bool) (B s o : Nat) (T : List (Int × Int)) (N : List Int) (vl vt : Value) (p nt : Nat) (rs : List Value) (see : Value) (r : Int) (W : World) (hJ : GenJ tape B o T N vl p W) (hS : Srce B W s (kOf tape) (lOf tape) o vt nt rs see) (hp : p ≤ totOf tape T N) (hT : T.length ≤ 40) (hr : (totOf tape T N : Int) - p = r) : Calls Try.prog 22 #[.pointer (some ⟨s, 0, none⟩)] W fun e w' => e = .returned (.int .i64 r) ∧ ∃ n, w' = W.drewN n := by
  cases tape
  · exact oleft_calls B s o N p vl vt nt rs see r W hJ hS hp hr
  · exact tleft_calls B s o T p vl vt nt rs see r W hJ hS hp (by omega) hr
end Go.Proofs.Ythlllcmffgdcmab.Src

/- Decisions that may be, the document's, and the comparison of two rows: as pairs of numbers. -/
import Derived.Test.YthlllcmffgdcmabSrc18
import Derived.Test.YthlllcmffgdcmabQSourcesx
namespace Go.Proofs.Ythlllcmffgdcmab.Src
open Go.RowKit Go.Proofs.YthlllcmffgdcmabW.PrintWords Go.Proofs.YthlllcmffgdcmabW.PrintLast Go.Proofs.YthlllcmffgdcmabW.PrintMore
open Go.Proofs.Ythlllcmffgdcmab.PSourceChains (S25 k25 k25_mk k25_open k25_openM rd_T25 S57 k57 k57_mk k57_open k57_openM rd_T57 shunterlaw02_Some.l0 shunterlaw02_Some.f shunterlaw02_Told.l0 shunterlaw02_Told.f shunterlaw02_Are.l0 shunterlaw02_Are.f)
set_option linter.unusedVariables false
set_option linter.unusedSimpArgs false

def p25 (x : Int × Int) : S25 := ⟨x.1, x.2⟩
def p57 (x : Int × Int) : S57 := ⟨x.1, x.2⟩
theorem reps25 : ∀ (T : List (Int × Int)) (cs : List Value) {w : World} {B : Nat} {ok : Nat → Prop}, Reps (k25.M w B ok) 2 (T.map p25) cs → cs = recs T := by
  intro T
  induction T with
  | nil => intro cs w B ok h; exact List.eq_nil_of_length_eq_zero (by simpa using h.1)
  | cons n T ih =>
    intro cs w B ok h
    have h0 := k25_openM (h.2 0 (p25 n) rfl)
    rw [Nat.zero_mul, List.drop_zero] at h0
    have ht := ih (cs.drop 2) (w := w) (B := B) (ok := ok) ⟨by have := h.1; simp at this; rw [List.length_drop, this, List.length_map]; omega, fun j p hj => by
      have := h.2 (j + 1) p hj
      rw [List.drop_drop, show 2 + j * 2 = (j + 1) * 2 by omega]
      exact this⟩
    rw [recs_cons, ← ht, ← List.take_append_drop 2 cs, h0]
    rfl
theorem reps57 : ∀ (T : List (Int × Int)) (cs : List Value) {w : World} {B : Nat} {ok : Nat → Prop}, Reps (k57.M w B ok) 2 (T.map p57) cs → cs = recs T := by
  intro T
  induction T with
  | nil => intro cs w B ok h; exact List.eq_nil_of_length_eq_zero (by simpa using h.1)
  | cons n T ih =>
    intro cs w B ok h
    have h0 := k57_openM (h.2 0 (p57 n) rfl)
    rw [Nat.zero_mul, List.drop_zero] at h0
    have ht := ih (cs.drop 2) (w := w) (B := B) (ok := ok) ⟨by have := h.1; simp at this; rw [List.length_drop, this, List.length_map]; omega, fun j p hj => by
      have := h.2 (j + 1) p hj
      rw [List.drop_drop, show 2 + j * 2 = (j + 1) * 2 by omega]
      exact this⟩
    rw [recs_cons, ← ht, ← List.take_append_drop 2 cs, h0]
    rfl
theorem own25_of_kd {w : World} {B : Nat} {ok : Nat → Prop} {v : Value} {T : List (Int × Int)} (h : Kd.R k25 25 w B ok v (T.map p25)) : w.ownsRow B 25 2 v T.length (recs T) := by
  obtain ⟨_, inner, ho, hr⟩ := h
  have e := reps25 T inner hr
  subst e
  rw [List.length_map] at ho
  exact ho
theorem own57_of_kd {w : World} {B : Nat} {ok : Nat → Prop} {v : Value} {T : List (Int × Int)} (h : Kd.R k57 57 w B ok v (T.map p57)) : w.ownsRow B 57 2 v T.length (recs T) := by
  obtain ⟨_, inner, ho, hr⟩ := h
  have e := reps57 T inner hr
  subst e
  rw [List.length_map] at ho
  exact ho
/-- A row of one's own is read. -/
theorem decs_own {w : World} {B n : Nat} {e : TypeId} {v : Value} {T : List (Int × Int)} (h : w.ownsRow B e 2 v n (recs T)) (hn : T.length = n) : ∃ A c, v = .slice A n c ∧ n ≤ c ∧ n ≤ maxLen ∧ Decs w A T := by
  subst hn
  obtain ⟨hl, h2⟩ := h
  rcases h2 with ⟨rfl, h0⟩ | ⟨gr, cap, cur, rfl, hb, hh, hc, hm, hs, ht⟩
  · rw [h0]
    exact ⟨none, 0, rfl, Nat.le_refl _, Nat.zero_le _, fun i hi => by omega⟩
  · refine ⟨some ⟨gr, 0, none⟩, cap, rfl, hc, by unfold maxLen at hm ⊢; omega, fun i hi => ⟨⟨gr, 0, none⟩, rfl, ?_⟩⟩
    have key : ∀ i u, i < T.length * 2 → (recs T)[i]? = some u → w.cell? ((⟨gr, 0, none⟩ : Addr).add i) = some u := fun i u hi hu => by
      rw [add_plain, blk_cell hh i]
      rw [← ht, List.getElem?_take_of_lt hi, Array.getElem?_toList] at hu
      exact hu
    have hg := recs_get T i hi
    exact ⟨key _ _ (by omega) hg.1, key _ _ (by omega) hg.2⟩
theorem kd25_of {w : World} {A : Option Addr} {T : List (Int × Int)} (h : Decs w A T) (hl : T.length ≤ 1000) : Kd.C k25 w A (T.map p25).length (T.map p25) := by
  refine ⟨rfl, by rw [List.length_map]; omega, fun h0 => ?_⟩
  rw [List.length_map] at h0
  obtain ⟨ad, rfl, _⟩ := h 0 (by omega)
  refine ⟨ad, rfl, fun j p hj => ?_⟩
  have hj' : j < T.length := by
    rcases Nat.lt_or_ge j T.length with h | h
    · exact h
    · rw [List.getElem?_eq_none (by rw [List.length_map]; exact h)] at hj; cases hj
  obtain ⟨ad', e, h1, h2⟩ := h j hj'
  injection e with e
  subst e
  have ep : p = p25 (T.getD j (0, 0)) := by
    rw [List.getElem?_map, List.getElem?_eq_getElem hj'] at hj
    injection hj with hj
    rw [← hj, List.getD_eq_getElem?_getD, List.getElem?_eq_getElem hj']
    rfl
  subst ep
  refine ⟨_, rfl, k25_mk w _, fun i u hu => ?_⟩
  have hsz : k25.sz = 2 := rfl
  rw [hsz]
  match i, hu with
  | 0, hu => injection hu with hu; subst hu; exact h1
  | 1, hu => injection hu with hu; subst hu; exact h2
theorem kd57_of {w : World} {A : Option Addr} {T : List (Int × Int)} (h : Decs w A T) (hl : T.length ≤ 1000) : Kd.C k57 w A (T.map p57).length (T.map p57) := by
  refine ⟨rfl, by rw [List.length_map]; omega, fun h0 => ?_⟩
  rw [List.length_map] at h0
  obtain ⟨ad, rfl, _⟩ := h 0 (by omega)
  refine ⟨ad, rfl, fun j p hj => ?_⟩
  have hj' : j < T.length := by
    rcases Nat.lt_or_ge j T.length with h | h
    · exact h
    · rw [List.getElem?_eq_none (by rw [List.length_map]; exact h)] at hj; cases hj
  obtain ⟨ad', e, h1, h2⟩ := h j hj'
  injection e with e
  subst e
  have ep : p = p57 (T.getD j (0, 0)) := by
    rw [List.getElem?_map, List.getElem?_eq_getElem hj'] at hj
    injection hj with hj
    rw [← hj, List.getD_eq_getElem?_getD, List.getElem?_eq_getElem hj']
    rfl
  subst ep
  refine ⟨_, rfl, k57_mk w _, fun i u hu => ?_⟩
  have hsz : k57.sz = 2 := rfl
  rw [hsz]
  match i, hu with
  | 0, hu => injection hu with hu; subst hu; exact h1
  | 1, hu => injection hu with hu; subst hu; exact h2

theorem rd_p25 (T : List (Int × Int)) (i : Nat) (h : i < T.length) : rd_T25 (T.map p25) (i : Int) = p25 T[i] := by simp [rd_T25, List.getD, h]
theorem rd_p57 (T : List (Int × Int)) (i : Nat) (h : i < T.length) : rd_T57 (T.map p57) (i : Int) = p57 T[i] := by simp [rd_T57, List.getD, h]
theorem are_l0 (T : List (Int × Int)) (hl : T.length ≤ 1000000) : ∀ (d i k : Nat), i + d = T.length → d < k →
    shunterlaw02_Are.l0 k (T.map p25) (T.map p57) (T.length : Int) (i : Int) = some 0 := by
  intro d
  induction d with
  | zero =>
    intro i k hi hk
    obtain ⟨k, rfl⟩ : ∃ m, k = m + 1 := ⟨k - 1, by omega⟩
    rw [shunterlaw02_Are.l0, if_neg (by omega)]
  | succ d ih =>
    intro i k hi hk
    obtain ⟨k, rfl⟩ : ∃ m, k = m + 1 := ⟨k - 1, by omega⟩
    have hlt : i < T.length := by omega
    rw [shunterlaw02_Are.l0, if_pos (show (i : Int) < (T.length : Int) by omega), if_pos (show (0 : Int) ≤ (i : Int) by omega), if_pos (show (i : Int) < ((T.map p25).length : Int) by rw [List.length_map]; omega),
      if_pos (show (i : Int) < ((T.map p57).length : Int) by rw [List.length_map]; omega), rd_p25 T i hlt, rd_p57 T i hlt, if_neg (by simp [p25, p57]),
      show wrap64 ((i : Int) + 1) = ((i + 1 : Nat) : Int) from by unfold wrap64; omega]
    exact ih (i + 1) k (by omega) (by omega)
theorem are_f (T : List (Int × Int)) (hl : T.length ≤ 1000000) (k : Nat) (hk : T.length < k) : shunterlaw02_Are.f k (T.map p25) (T.map p57) = some 0 := by
  have := are_l0 T hl T.length 0 k (by omega) (by omega)
  unfold shunterlaw02_Are.f
  rw [List.length_map, List.length_map, if_pos rfl]
  exact this
theorem and_255 (x : Int) : 0 ≤ Go.bits .and .i64 x 255 ∧ Go.bits .and .i64 x 255 ≤ 255 := by
  have h : (BitVec.ofInt 64 x &&& BitVec.ofInt 64 255).toNat ≤ 255 := by
    rw [BitVec.toNat_and]; exact Nat.and_le_right
  have e : Go.bits .and .i64 x 255 = IntKind.i64.wrap ((BitVec.ofInt 64 x &&& BitVec.ofInt 64 255).toNat : Int) := rfl
  rw [e, IntKind.wrap_i64]
  omega
theorem and_most (x : Int) : 0 ≤ Go.bits .and .u64 x 4611686018427387903 ∧ Go.bits .and .u64 x 4611686018427387903 ≤ 4611686018427387903 := by
  have h : (BitVec.ofInt 64 x &&& BitVec.ofInt 64 4611686018427387903).toNat ≤ 4611686018427387903 := by
    rw [BitVec.toNat_and]; exact Nat.and_le_right
  have e : Go.bits .and .u64 x 4611686018427387903 = IntKind.u64.wrap ((BitVec.ofInt 64 x &&& BitVec.ofInt 64 4611686018427387903).toNat : Int) := rfl
  rw [e, IntKind.wrap_u64]
  omega
/-- A decision that may be. -/
def MayBe (x : Int × Int) : Prop := 1 ≤ x.1 ∧ x.1 ≤ 4 ∧ 0 ≤ x.2 ∧ x.2 ≤ 4611686018427387903
theorem some_one (x y : Int) : ∃ p : Int × Int, MayBe p ∧ (⟨wrap64 (1 + (Int.tmod (Go.bits .and .i64 x 255) 4)), Go.bits .and .u64 y 4611686018427387903⟩ : S25) = p25 p := by
  obtain ⟨a0, a1⟩ := and_255 x
  refine ⟨(wrap64 (1 + (Int.tmod (Go.bits .and .i64 x 255) 4)), Go.bits .and .u64 y 4611686018427387903), ⟨?_, ?_, (and_most y).1, (and_most y).2⟩, rfl⟩
  · show 1 ≤ wrap64 _
    rw [Int.tmod_eq_emod_of_nonneg a0]
    unfold wrap64; omega
  · show wrap64 _ ≤ 4
    rw [Int.tmod_eq_emod_of_nonneg a0]
    unfold wrap64; omega
theorem some_l0 (l : List S57) : ∀ (d k i : Nat) (ns : List (Int × Int)), i + d = min l.length 40 → d + 5 ≤ k → ns.length = i → (∀ n ∈ ns, MayBe n) →
    ∃ ms : List (Int × Int), shunterlaw02_Some.l0 k l (ns.map p25) (i : Int) = some (ms.map p25) ∧ ms.length = min l.length 40 ∧ ∀ n ∈ ms, MayBe n := by
  intro d
  induction d with
  | zero =>
    intro k i ns hi hk hl hn
    obtain ⟨k, rfl⟩ : ∃ m, k = m + 1 := ⟨k - 1, by omega⟩
    rw [shunterlaw02_Some.l0]
    by_cases h : (i : Int) < (l.length : Int)
    · rw [if_pos h, if_neg (by omega)]; exact ⟨ns, rfl, by omega, hn⟩
    · rw [if_neg h]; exact ⟨ns, rfl, by omega, hn⟩
  | succ d ih =>
    intro k i ns hi hk hl hn
    obtain ⟨k, rfl⟩ : ∃ m, k = m + 1 := ⟨k - 1, by omega⟩
    obtain ⟨n, hn64, he⟩ := some_one ((rd_T57 l (i : Int)).f0) ((rd_T57 l (i : Int)).f1)
    rw [shunterlaw02_Some.l0, if_pos (by omega), if_pos (by omega), if_pos (by omega), if_pos (by rw [List.length_map]; omega), he,
      show wrap64 ((i : Int) + 1) = ((i + 1 : Nat) : Int) from by unfold wrap64; omega, show ns.map p25 ++ [p25 n] = (ns ++ [n]).map p25 from by simp]
    exact ih k (i + 1) (ns ++ [n]) (by omega) (by omega) (by simp [hl]) (fun m hm => by
      rcases List.mem_append.1 hm with h | h
      · exact hn m h
      · rw [List.mem_singleton.1 h]; exact hn64)
theorem some_f (l : List S57) (k : Nat) (hk : 50 ≤ k) : ∃ ms : List (Int × Int), shunterlaw02_Some.f k l = some (ms.map p25) ∧ ms.length ≤ 40 ∧ ∀ n ∈ ms, MayBe n := by
  obtain ⟨ms, h1, h2, h3⟩ := some_l0 l (min l.length 40) k 0 [] (by omega) (by omega) rfl (by simp)
  exact ⟨ms, h1, by omega, h3⟩
theorem told_l0 (T : List (Int × Int)) (hl : T.length ≤ 1000000) : ∀ (d k i : Nat), i + d = T.length → d < k →
    shunterlaw02_Told.l0 k ((T.take i).map p57) (T.map p25) (T.length : Int) (i : Int) = some (T.map p57) := by
  intro d
  induction d with
  | zero =>
    intro k i hi hk
    obtain ⟨k, rfl⟩ : ∃ m, k = m + 1 := ⟨k - 1, by omega⟩
    obtain rfl : i = T.length := by omega
    rw [shunterlaw02_Told.l0, if_neg (by omega), List.take_length]
  | succ d ih =>
    intro k i hi hk
    obtain ⟨k, rfl⟩ : ∃ m, k = m + 1 := ⟨k - 1, by omega⟩
    have hlt : i < T.length := by omega
    rw [shunterlaw02_Told.l0, if_pos (show (i : Int) < (T.length : Int) by omega), if_pos (show (0 : Int) ≤ (i : Int) by omega), if_pos (show (i : Int) < ((T.map p25).length : Int) by rw [List.length_map]; omega),
      if_pos (by rw [List.length_map, List.length_take]; omega), rd_p25 T i hlt, show wrap64 ((i : Int) + 1) = ((i + 1 : Nat) : Int) from by unfold wrap64; omega]
    have := ih k (i + 1) (by omega) (by omega)
    rw [List.take_succ_eq_append_getElem hlt, List.map_append] at this
    exact this
theorem told_f (T : List (Int × Int)) (hl : T.length ≤ 1000000) (k : Nat) (hk : T.length < k) : shunterlaw02_Told.f k (T.map p25) = some (T.map p57) := by
  have := told_l0 T hl T.length k 0 (by omega) hk
  unfold shunterlaw02_Told.f
  rw [List.length_map]
  exact this

theorem some_calls (w : World) (A : Option Addr) (c : Nat) (l : List S57) (h : Kd.C k57 w A l.length l) (hc : l.length ≤ c) : Calls Try.prog 25 #[.slice A l.length c] w fun e w' =>
    ∃ A' n c' T, e = .returned (.slice A' n c') ∧ w'.ownsRow w.heap.size 25 2 (.slice A' n c') n (recs T) ∧ T.length = n ∧ n ≤ 40 ∧ (∀ x ∈ T, MayBe x) ∧ Below w.heap.size w w' := by
  obtain ⟨ms, h1, h2, h3⟩ := some_f l 50 (Nat.le_refl _)
  refine (Go.Proofs.Ythlllcmffgdcmab.PSourceChains.shunterlaw02_Some.calls 50 A c l _ w h hc h1).mono fun e w' ⟨v, e1, e2, e3⟩ => ?_
  have ho := own25_of_kd e2
  obtain ⟨A', c', rfl⟩ := own_slice ho
  exact ⟨A', ms.length, c', ms, e1, ho, rfl, h2, h3, e3⟩
theorem told_calls (w : World) (B n : Nat) (v : Value) (T : List (Int × Int)) (h : w.ownsRow B 25 2 v n (recs T)) (hn : T.length = n) (hl : n ≤ 1000) : Calls Try.prog 26 #[v] w fun e w' =>
    ∃ A c, e = .returned (.slice A n c) ∧ w'.ownsRow w.heap.size 57 2 (.slice A n c) n (recs T) ∧ Below w.heap.size w w' := by
  obtain ⟨A, c, rfl, hc, hm, hd⟩ := decs_own h hn
  subst hn
  have := Go.Proofs.Ythlllcmffgdcmab.PSourceChains.shunterlaw02_Told.calls (T.length + 1) A c (T.map p25) _ w (kd25_of hd hl) (by rw [List.length_map]; exact hc) (told_f T (by omega) _ (by omega))
  rw [List.length_map] at this
  refine this.mono fun e w' ⟨v', e1, e2, e3⟩ => ?_
  have ho := own57_of_kd e2
  obtain ⟨A', c', rfl⟩ := own_slice ho
  exact ⟨A', c', e1, ho, e3⟩
/-- Two rows of the same decisions. -/
theorem are_calls (w : World) (A A' : Option Addr) (n c c' : Nat) (T : List (Int × Int)) (h : Decs w A T) (h' : Decs w A' T) (hn : T.length = n) (hc : n ≤ c) (hc' : n ≤ c') (hl : n ≤ 1000) : Calls Try.prog 30 #[.slice A n c, .slice A' n c'] w fun e w' => e = .returned (.int .i64 0) ∧ ∃ m, w' = w.drewN m := by
  subst hn
  have := Go.Proofs.Ythlllcmffgdcmab.PSourceChains.shunterlaw02_Are.calls (T.length + 1) A c (T.map p25) A' c' (T.map p57) 0 w (kd25_of h hl) (by rw [List.length_map]; exact hc) (kd57_of h' hl) (by rw [List.length_map]; exact hc') (are_f T (by omega) _ (by omega))
  rw [List.length_map, List.length_map] at this
  exact this.mono fun e w' ⟨h1, ⟨n, hw⟩⟩ => ⟨h1, n, hw⟩
end Go.Proofs.Ythlllcmffgdcmab.Src

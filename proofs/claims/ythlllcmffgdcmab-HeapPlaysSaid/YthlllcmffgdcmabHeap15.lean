import Derived.Test.YthlllcmffgdcmabHeapLink
import Derived.Deep.DeepCutAuto
import Derived.Deep.CutBlock
namespace Go.Proofs.Ythlllcmffgdcmab.Heap
open Go.RowKit Go.Proofs.YthlllcmffgdcmabW.PrintWords Go.Proofs.YthlllcmffgdcmabW.PrintLast Go.Proofs.YthlllcmffgdcmabW.PrintMore Go.Proofs.Ythlllcmffgdcmab.HeapPlain
attribute [local go_sem] max2_int min2_int max_two min_two
attribute [local go_sem high] PHeapPlays.eqA107
set_option linter.unusedVariables false
set_option linter.unusedSimpArgs false

theorem take_at {P : Program} {md : Region.Mode} {ops : Array Oper} {Q : Exit → Act → World → Prop} {S : World → Prop} {i : Nat} {oi : Oper} {d : Option Tmp} {v : Value} {fuel : Nat} {listed : Array Bool} {a : Act} {w : World} (hi : ops[i]? = some oi) (hd : oi.dst = d)
    (hs : Region.noSelect ops = true) (hf : Region.free md ops listed i = true) (hr : (Region.ready md ops listed).contains i = true)
    (hQ : ∀ c a w, Q (.panic c) (a.put d v) w → Q (.panic c) a w) (hy : YieldsIf P ops S oi v a) (hS : S w)
    (h : wpAnyH P md ops Q S fuel (listed.setIfInBounds i true) (a.put d v) w) : wpAnyH P md ops Q S (fuel + 1) listed a w := by
  subst hd
  exact wpAnyH_take hi hs hf hr hQ hy hS h

/-- A row of calls in memory: which, who, until when. -/
def Acts (w : World) (A : Option Addr) (n : Nat) (qs : List (Int × Int × Int)) : Prop :=
  qs.length = n ∧ ∀ i, i < n → ∃ ad, A = some ad ∧ w.cell? (ad.add (i * 3)) = some (.int .i64 (qs.getD i (0, 0, 0)).1) ∧ w.cell? (ad.add (i * 3 + 1)) = some (.int .i64 (qs.getD i (0, 0, 0)).2.1) ∧ w.cell? (ad.add (i * 3 + 2)) = some (.int .u64 (qs.getD i (0, 0, 0)).2.2)
theorem Acts.below {w w' : World} {A : Option Addr} {n : Nat} {qs : List (Int × Int × Int)} (h : Acts w A n qs) (hb : Below w.heap.size w w') : Acts w' A n qs :=
  ⟨h.1, fun i hi => by obtain ⟨ad, e, h1, h2, h3⟩ := h.2 i hi; exact ⟨ad, e, pw_cell_below hb h1, pw_cell_below hb h2, pw_cell_below hb h3⟩⟩

theorem IsHeap.low' {B B' : Nat} {w : World} {p : Nat} {v : Value} {l : List It} {sq : Int} (h : IsHeap B w p v l sq) (hB : B' ≤ B) : IsHeap B' w p v l sq := ⟨Nat.le_trans hB h.ge, h.blk, own_weaken h.row hB⟩
theorem and255 (n : Int) : Go.bits .and .i64 n 255 = n % 256 := by
  have h127 : (BitVec.ofInt 64 255).toNat = 2 ^ 8 - 1 := by decide
  have key : (BitVec.ofInt 64 n &&& BitVec.ofInt 64 255).toNat = (n % ((2 ^ 64 : Nat) : Int)).toNat % 2 ^ 8 := by
    rw [BitVec.toNat_and, BitVec.toNat_ofInt, h127, Nat.and_two_pow_sub_one_eq_mod]
  show IntKind.i64.wrap ((BitVec.ofInt 64 n &&& BitVec.ofInt 64 255).toNat : Nat) = n % 256
  rw [key, IntKind.wrap_i64]
  omega
/-- Both heaps in memory. -/
structure Two (w0 : World) (p px : Nat) (w : World) (v : Value) (l : List It) (sq : Int) (vx : Value) (x : List It) (sx : Int) : Prop where
  heap : IsHeap w0.heap.size w p v l sq
  blk : w.heap[px]? = some (.cells #[vx, .int .u64 sx] 97 (0, 0))
  row : RRow w w0.heap.size vx x
  below : Below w0.heap.size w0 w
  ge : w0.heap.size ≤ px
variable {w0 w w' : World} {p px : Nat} {v v' vx vx' : Value} {l l' x x' : List It} {sq sq' sx sx' : Int}
theorem Two.on (h : Two w0 p px w v l sq vx x sx) (hb : Below w.heap.size w w') : Two w0 p px w' v l sq vx x sx :=
  ⟨h.heap.below hb, blk_below h.blk hb, h.row.below hb, below_then h.below h.below.size hb, h.ge⟩
theorem Two.drew (h : Two w0 p px w v l sq vx x sx) : Two w0 p px w.drew v l sq vx x sx := h.on (Below.refl _ _).drew
theorem Two.step (h : Two w0 p px w v l sq vx x sx) (hs : Step w0.heap.size p v v' w w') (hh : IsHeap w0.heap.size w' p v' l' sq') : Two w0 p px w' v' l' sq' vx x sx :=
  ⟨hh, blk_step h.blk h.heap hs (by decide) (by decide), h.row.step h.heap hs, h.below.trans hs.below, h.ge⟩
/-- Blocks of other types are as they were. -/
def Quiet83 (w w' : World) : Prop := ∀ (g : Nat) (cs : Array Value) (t : TypeId), w.heap[g]? = some (.cells cs t (0, 0)) → t ≠ 83 → t ≠ 88 → w'.heap[g]? = some (.cells cs t (0, 0))
theorem Two.quiet (h : Two w0 p px w v l sq vx x sx) (hs : Step w0.heap.size p v v' w w') : Quiet83 w w' := fun g cs t hg h1 h2 => blk_step hg h.heap hs h1 h2
theorem RRow.set {B : Nat} (h : RRow w B vx x) {g : Nat} {cs : Array Value} {t : TypeId} (hb : w.heap[g]? = some (.cells cs t (0, 0))) (ht : t ≠ 107) (j : Nat) (u : Value) : RRow (w.setCell ⟨g, j, none⟩ u) B vx x :=
  h.types (S := fun k => k = g) ((Kept.refl w (fun k => k = g)).setCell (p := ⟨g, j, none⟩) (.inl (show g = g from rfl)) u) fun k cells hk hc => by
    subst hk
    rw [hb] at hc
    injection hc with hc
    injection hc with _ hc
    exact ht hc
/-- The document's heap, stored. -/
theorem two_put (hh : IsHeap w0.heap.size w p v l sq) (hb : w.heap[px]? = some (.cells #[vx, .int .u64 sx] 97 (0, 0))) (hr : RRow w w0.heap.size vx' x') (hbl : Below w0.heap.size w0 w) (hg : w0.heap.size ≤ px) :
    Two w0 p px ((w.setCell ⟨px, 0, none⟩ vx').setCell ⟨px, 1, none⟩ (.int .u64 sx')) v l sq vx' x' sx' := by
  have hb1 := blk_set hb 0 vx'
  have hb2 := blk_set hb1 1 (.int .u64 sx')
  have hp : px ≠ p := blk_ne hb hh.blk (by decide)
  have hv : some px ≠ v.ownBlock := own_ne hh.row hb (by decide)
  exact ⟨(hh.far (q := ⟨px, 0, none⟩) hp hv vx').far (q := ⟨px, 1, none⟩) hp hv _, by simpa using hb2, (hr.set hb (by decide) 0 vx').set hb1 (by decide) 1 _, (hbl.setCell hg _).setCell hg _, hg⟩
theorem add0 (g k : Nat) : (⟨g, 0, none⟩ : Addr).add k = ⟨g, k, none⟩ := by unfold Addr.add; split <;> simp_all
theorem RRow.head {B : Nat} (h : RRow w B vx x) (h0 : 0 < x.length) : ∃ gx c, vx = .slice (some ⟨gx, 0, none⟩) x.length c ∧ w.cell? ⟨gx, 0, none⟩ = some (.int .u64 (g x 0).t) ∧ w.cell? ⟨gx, 1, none⟩ = some (.int .u64 (g x 0).s) ∧ w.cell? ⟨gx, 2, none⟩ = some (.int .i64 (g x 0).d) := by
  obtain ⟨A, c, rfl, hl, hc⟩ := h.slice
  obtain ⟨inner, ho⟩ := Kd.R_own h
  rcases ho.2 with ⟨e, _⟩ | ⟨gr, cap, cur, e, _⟩
  · injection e with _ e _; omega
  · injection e with e _ _
    subst e
    obtain ⟨ad, e, i0, i1, i2⟩ := PHeapPlays.at_T107 hc 0 (by omega) (by rw [List.length_map]; omega)
    injection e with e
    subst e
    have hr := rd7 x 0 h0
    rw [Int.natCast_zero] at hr
    rw [hr] at i0 i1 i2
    rw [show (0 : Int).toNat * 3 = 0 from rfl, add0] at i0 i1 i2
    exact ⟨gr, c, rfl, i0, i1, i2⟩

theorem own_kept' {B : Nat} {w w' : World} {S : Nat → Prop} {e : TypeId} {size n : Nat} {v : Value} {xs : List Value} (h : w.ownsRow B e size v n xs) (hk : Kept w w' S) (hne : ∀ k, v.ownBlock = some k → ¬ S k) : w'.ownsRow B e size v n xs := by
  obtain ⟨h1, h2⟩ := h
  refine ⟨h1, ?_⟩
  rcases h2 with h2 | ⟨g, cap, cur, rfl, hb, hh, r⟩
  · exact .inl h2
  · exact .inr ⟨g, cap, cur, rfl, hb, blk_kept hh hk (hne g rfl), r⟩
theorem two_push (t d : Int) (h : Two w0 p px w v l sq vx x sx) (hl : l.length ≤ 900) (hs0 : 0 ≤ sq) (hs1 : sq ≤ 1000000) : Calls Try.prog 40 #[.pointer (some ⟨p, 0, none⟩), .int .u64 t, .int .i64 d] w fun e w' =>
    e = .returned (.int .u64 sq) ∧ ∃ v', Two w0 p px w' v' (psh l ⟨t, sq, d⟩) (sq + 1) vx x sx ∧ Quiet83 w w' :=
  (push_calls w0.heap.size p v l sq t d w h.heap hl hs0 hs1).mono fun e w' ⟨h1, v', h2, h3⟩ => ⟨h1, v', h.step h3 h2, h.quiet h3⟩
theorem two_cancel (s : Int) (h : Two w0 p px w v l sq vx (del x s) sx) (hp : Pl l x sq) (hl : l.length ≤ 1000) : Calls Try.prog 41 #[.pointer (some ⟨p, 0, none⟩), .int .u64 s] w fun e w' =>
    e = .returned (.bool (decide ((del x s).length < x.length))) ∧ ∃ v' l', Two w0 p px w' v' l' sq vx (del x s) sx ∧ Pl l' (del x s) sq ∧ l'.length ≤ l.length :=
  (cancel_calls w0.heap.size p v l sq s w h.heap hl (fun b w' => b = decide ((del x s).length < x.length) ∧ ∃ v' l', Two w0 p px w' v' l' sq vx (del x s) sx ∧ Pl l' (del x s) sq ∧ l'.length ≤ l.length)
    (fun i w' hi he _ v' hR hS => by
      obtain ⟨h1, h2⟩ := hp.yes hi he
      exact ⟨(decide_eq_true h2).symm, v', rm l i, h.step hS hR, h1, by have := (rm_spec l i hi hp.ord).2.2; omega⟩)
    (fun w' hne hR hS => by
      have e := hp.no hne
      exact ⟨by rw [e]; simp, v, l, h.step hS hR, by rw [e]; exact hp, Nat.le_refl _⟩)).mono fun e w' ⟨b, h1, h2, h3⟩ => ⟨by rw [h1, h2], h3⟩
theorem two_wake (now : Int) (v2 : Value) (h : Two w0 p px w v l sq vx (nw x now) sx) (hr : RRow w w0.heap.size v2 (wk x now)) (hp : Pl l x sq) (hl : l.length ≤ 1000) : Calls Try.prog 42 #[.pointer (some ⟨p, 0, none⟩), .int .u64 now] w fun e w' =>
    ∃ vo v' l', e = .returned vo ∧ Row w' w.heap.size vo (wk x now) ∧ RRow w' w0.heap.size v2 (wk x now) ∧ Two w0 p px w' v' l' sq vx (nw x now) sx ∧ Pl l' (nw x now) sq ∧ l'.length ≤ l.length :=
  (wake_calls w0.heap.size p v l sq now w h.heap hl hp.ord).mono fun e w' ⟨vo, os, v', l', h1, h2, h3⟩ => by
    obtain ⟨e1, e2⟩ := hp.wake h2.ord h2.perm h2.sorted h2.small h3
    subst e1
    exact ⟨vo, v', l', h1, h2.out, hr.step h.heap h2.step, h.step h2.step h2.heap, e2, by have := h2.len; omega⟩
theorem two_list (h : Two w0 p px w v l sq vx x sx) (hp : Pl l x sq) (hl : l.length ≤ 1000) : Calls Try.prog 49 #[.pointer (some ⟨p, 0, none⟩)] w fun e w' =>
    ∃ vo, e = .returned vo ∧ Row w' w.heap.size vo x ∧ Two w0 p px w' v l sq vx x sx ∧ Below w.heap.size w w' :=
  (list_calls w0.heap.size p v l sq w h.heap hl hp.ord).mono fun e w' ⟨vo, os, h1, h2, h3, h4, h5⟩ => by
    obtain rfl := hp.uniq h3 h4
    exact ⟨vo, h1, h2, h.on h5, h5⟩
theorem two_same {B : Nat} {vo : Value} (h : Two w0 p px w v l sq vx x sx) (ho : Row w B vo x) (hl : x.length ≤ 1000) : Calls Try.prog 48 #[vo, vx] w fun e w' => e = .returned (.bool true) ∧ Two w0 p px w' v l sq vx x sx ∧ Below w.heap.size w w' :=
  (rsame w _ _ _ _ _ _ ho h.row rfl hl).mono fun e w' ⟨h1, n, hw⟩ => by
    have hb : Below w.heap.size w w' := hw ▸ pw_below_drewN (Below.refl _ _) n
    exact ⟨h1, h.on hb, hb⟩
theorem two_len (n : Nat) (h : Two w0 p px w v l sq vx x sx) (hn : l.length = n) : Calls Try.prog 43 #[.pointer (some ⟨p, 0, none⟩)] w fun e w' => e = .returned (.int .i64 n) ∧ w = w' := by
  subst hn
  exact len_calls w0.heap.size p v l sq w h.heap
theorem two_len0 (h : Two w0 p px w v [] sq vx x sx) : Calls Try.prog 43 #[.pointer (some ⟨p, 0, none⟩)] w fun e w' => e = .returned (.int .i64 0) ∧ w = w' := len_calls w0.heap.size p v [] sq w h.heap
theorem two_min0 (h : Two w0 p px w v [] sq vx x sx) : Calls Try.prog 44 #[.pointer (some ⟨p, 0, none⟩)] w fun e w' => e = .returned (.tuple #[.agg #[.int .u64 0, .int .u64 0, .int .i64 0], .bool false]) ∧ Two w0 p px w' v [] sq vx x sx :=
  (min_none w0.heap.size p v sq w h.heap).mono fun e w' ⟨h1, h2⟩ => ⟨h1, h.on h2⟩
theorem two_min (y : It) (h : Two w0 p px w v l sq vx x sx) (h0 : 0 < l.length) (hy : g l 0 = y) : Calls Try.prog 44 #[.pointer (some ⟨p, 0, none⟩)] w fun e w' => e = .returned (.tuple #[.agg #[.int .u64 y.t, .int .u64 y.s, .int .i64 y.d], .bool true]) ∧ Two w0 p px w' v l sq vx x sx := by
  subst hy
  exact (min_some w0.heap.size p v l sq w h.heap h0).mono fun e w' ⟨h1, h2⟩ => ⟨h1, h.on h2⟩
theorem Two.ref (h : Two w0 p px w v l sq vx x sx) (hb : Below w0.heap.size w0 w') (hk : Kept w w' (fun k => vx.ownBlock = some k)) : IsHeap w0.heap.size w' p v l sq ∧ w'.heap[px]? = some (.cells #[vx, .int .u64 sx] 97 (0, 0)) := by
  have ne : ∀ (g : Nat) (cs : Array Value) (t : TypeId), w.heap[g]? = some (.cells cs t (0, 0)) → t ≠ 107 → w'.heap[g]? = some (.cells cs t (0, 0)) := fun g cs t hg ht => blk_kept hg hk fun e => by
    obtain ⟨_, cells, hc⟩ := h.row.own g e
    rw [hc] at hg
    injection hg with hg
    injection hg with _ hg
    exact ht hg.symm
  refine ⟨⟨h.heap.ge, ne _ _ _ h.heap.blk (by decide), own_kept' h.heap.row hk fun k hk' e => ?_⟩, ne _ _ _ h.blk (by decide)⟩
  obtain ⟨_, cells, hc⟩ := h.row.own k e
  obtain ⟨cells', hc'⟩ := row_type h.heap.row k hk'
  rw [hc] at hc'
  injection hc' with hc'
  injection hc' with _ hc'
  cases hc'

set_option maxHeartbeats 4000000 in
set_option maxRecDepth 100000 in
theorem plays_law (A : Option Addr) (c : Nat) (qs : List (Int × Int × Int)) (w : World) (h : Acts w A qs.length qs) :
    Calls Try.prog 12 #[.slice A qs.length c] w fun e w' => e = .returned (.bool true) ∧ Below w.heap.size w w' := by
  have HA := Aside0.mk h
  have HAW := Aside0.mk (awake_calls w)
  clear h
  go_enter Try.func12, Try.ntmps12
  go_upto_region 3 with (go_at_call 39; (with_reducible refine HAW.out.mono ?_); rintro e w1 ⟨rfl, hb⟩; have B1 := Aside0.mk hb; clear hb)
  have HN := Aside0.mk ((new_heap w1))
  go_upto_region 4 with (fail)
  have HP := Aside0.mk (show Two w w1.heap.size (w1.heap.size + 1) ((w1.alloc (.cells #[.slice none 0 0, .int .u64 0] 83)).alloc (.cells #[.slice none 0 0, .int .u64 0] 97)) (.slice none 0 0) [] 0 (.slice none 0 0) [] 0 from
    ⟨(HN.out.low' B1.out.size).below (below_alloc (Below.refl _ _) _), by simpa using blk_new (w1.alloc (.cells #[.slice none 0 0, .int .u64 0] 83)) (.cells #[.slice none 0 0, .int .u64 0] 97), RRow.nil _ _, below_then (below_then B1.out B1.out.size (below_alloc (Below.refl _ _) _)) (Nat.le_trans B1.out.size (by simp)) (below_alloc (Below.refl _ _) _), Nat.le_trans B1.out.size (by omega)⟩)
  clear HN
  go_upto_block 0 with (fail)
  obtain ⟨p, hp⟩ : ∃ p, w1.heap.size = p := ⟨_, rfl⟩
  obtain ⟨px, hpx⟩ : ∃ px, p + 1 = px := ⟨_, rfl⟩
  rw [hp] at HP ⊢
  rw [hpx] at HP ⊢
  clear hp hpx
  change Code.wp _ _ _ _ ((w1.alloc (.cells #[.slice none 0 0, .int .u64 0] 83)).alloc (.cells #[.slice none 0 0, .int .u64 0] 97))
  generalize (w1.alloc (.cells #[.slice none 0 0, .int .u64 0] 83)).alloc (.cells #[.slice none 0 0, .int .u64 0] 97) = w2 at HP ⊢
  go_wp2
  go_loopw [5] (fun iv wr => ∃ (k : Nat) (v : Value) (l : List It) (sq : Int) (vx : Value) (x : List It), k ≤ 60 ∧ iv = .int .i64 k ∧ Two w p px wr v l sq vx x sq ∧ Pl l x sq ∧ l.length ≤ k ∧ 0 ≤ sq ∧ sq ≤ k) (fun iv _ => 60 - (intOf iv).toNat)
  case atStart => exact ⟨0, _, [], 0, _, [], by omega, rfl, HP.out, Pl.start, by simp, by omega, by omega⟩
  case round =>
    clear HP
    obtain ⟨k, v, l, sq, vx, x, hk, rfl, hT, hP, hlk, hs0, hs1⟩ := hrel
    have HT := Aside0.mk hT
    have HP := Aside0.mk hP
    clear hT hP
    by_cases ha : k < qs.length
    · have q1 : decide ((k : Int) < (qs.length : Int)) = true := decide_eq_true (by omega)
      by_cases h60 : k < 60
      · have q2 : decide ((k : Int) < 60) = true := decide_eq_true (by omega)
        obtain ⟨ad, e1, a0, a1, a2⟩ := (HA.out.below HT.out.below).2 k ha
        subst e1
        rw [add_field ad (k * 3) 1 (by decide)] at a1
        rw [add_field ad (k * 3) 2 (by decide)] at a2
        generalize (qs.getD k (0, 0, 0)).1 = kk at a0
        generalize (qs.getD k (0, 0, 0)).2.1 = id at a1
        generalize (qs.getD k (0, 0, 0)).2.2 = tt at a2
        obtain ⟨q, hq, hq0, hq1⟩ : ∃ q : Int, Go.bits .and .i64 kk 255 = q ∧ 0 ≤ q ∧ q < 256 := ⟨kk % 256, and255 kk, by omega, by omega⟩
        obtain ⟨r, hr, hr0, hr1⟩ : ∃ r : Int, q % 6 = r ∧ 0 ≤ r ∧ r < 6 := ⟨q % 6, rfl, by omega, by omega⟩
        have hr' : q.tmod 6 = r := by rw [Int.tmod_eq_emod_of_nonneg hq0]; exact hr
        go_upto_block 2 with (fail)
        have HZ := Aside0.mk (blk_new wr (.cells #[.int .i64 kk, .int .i64 id, .int .u64 tt] 99))
        have HT2 := Aside0.mk (HT.out.on (below_alloc (Below.refl _ _) (.cells #[.int .i64 kk, .int .i64 id, .int .u64 tt] 99)))
        obtain ⟨z, hz⟩ : ∃ z, wr.heap.size = z := ⟨_, rfl⟩
        rw [hz] at HZ ⊢
        have HAK := Aside0.mk (And.intro ha h60)
        clear hz a0 a1 a2 hq hr hr' HT
        change Code.wp _ _ _ _ (wr.alloc (.cells #[.int .i64 kk, .int .i64 id, .int .u64 tt] 99))
        generalize wr.alloc (.cells #[.int .i64 kk, .int .i64 id, .int .u64 tt] 99) = w3 at HZ HT2 ⊢
        have HZD := Aside0.mk (blk_drew HZ.out)
        have HTD := Aside0.mk HT2.out.drew
        go_cut [] (fun wx => ∃ (v : Value) (l : List It) (sq : Int) (vx : Value) (x : List It), Two w p px wx v l sq vx x sq ∧ Pl l x sq ∧ l.length ≤ k + 1 ∧ 0 ≤ sq ∧ sq ≤ k + 1)
        case first =>
          have z1 : w3.cell? ⟨z, 1, none⟩ = some (.int .i64 id) := (blk_cell HZ.out 1).trans rfl
          have z2 : w3.cell? ⟨z, 2, none⟩ = some (.int .u64 tt) := (blk_cell HZ.out 2).trans rfl
          have p0 : w3.cell? ⟨px, 0, none⟩ = some vx := (blk_cell HT2.out.blk 0).trans rfl
          have p1 : w3.cell? ⟨px, 1, none⟩ = some (.int .u64 sq) := (blk_cell HT2.out.blk 1).trans rfl
          obtain ⟨Ax, cx, evx⟩ : ∃ A c, vx = .slice A x.length c := by obtain ⟨A, c, e, _⟩ := HT2.out.row.slice; exact ⟨A, c, e⟩
          subst evx
          have HXL := Aside0.mk (show x.length ≤ 900 ∧ l.length ≤ 900 by have := HP.out.len; omega)
          have hrc : r < 4 ∨ r = 4 ∨ 4 < r := by omega
          rcases hrc with h4 | h4 | h4
          · have q3 : decide (r < 4) = true := decide_eq_true h4
            have q4 : (sq != sq) = false := bne_self_eq_false sq
            have HPC := Aside0.mk (fun (W : World) (hT : Two w p px W v l sq (.slice Ax x.length cx) x sq) => two_push tt id hT HXL.out.2 hs0 (show sq ≤ 1000000 by omega))
            go_upto_region 15 with (fail)
            go_region_held3 (fun w' => w'.cell? ⟨z, 1, none⟩ = some (.int .i64 id) ∧ w'.cell? ⟨z, 2, none⟩ = some (.int .u64 tt) ∧ w'.cell? ⟨px, 1, none⟩ = some (.int .u64 sq)) (first | (go_keep; done))
              ((go_at_call 40; (first | refine (HPC.out _ HT2.out).mono ?_ | refine (HPC.out _ HTD.out).mono ?_); rintro e w5 ⟨rfl, v5, hT5, hq5⟩; have HZ5 := Aside0.mk (by first | exact hq5 _ _ _ HZ.out (by decide) (by decide) | exact hq5 _ _ _ HZD.out (by decide) (by decide) : w5.heap[z]? = some (.cells #[.int .i64 kk, .int .i64 id, .int .u64 tt] 99 (0, 0))); have HT5 := Aside0.mk hT5; have y1 : w5.cell? ⟨z, 1, none⟩ = some (.int .i64 id) := (blk_cell HZ5.out 1).trans rfl; have y2 : w5.cell? ⟨z, 2, none⟩ = some (.int .u64 tt) := (blk_cell HZ5.out 2).trans rfl; have y3 : w5.cell? ⟨px, 1, none⟩ = some (.int .u64 sq) := (blk_cell HT5.out.blk 1).trans rfl; clear hT5 hq5))
            have p0' : w5.cell? ⟨px, 0, none⟩ = some (.slice Ax x.length cx) := (blk_cell HT5.out.blk 0).trans rfl
            have HXX := Aside0.mk (show x.length ≤ 1000 ∧ sq ≤ 1000000 ∧ (psh l ⟨tt, sq, id⟩).length = l.length + 1 from ⟨by have := HXL.out; omega, by omega, psh_len _ _ HP.out.ord⟩)
            clear z1 z2 p0 p1 HPC
            go_wp2_with (go_at_call 45; (with_reducible refine (rpush w.heap.size _ _ x sq tt id HT5.out.row HT5.out.below.size HXX.out.1 hs0 HXX.out.2.1).mono ?_); rintro e w6 ⟨A6, n6, c6, rfl, hR6, hb6⟩; have HR6 := Aside0.mk hR6; have HT6 := Aside0.mk (HT5.out.on hb6); have f0 := (blk_cell HT6.out.blk 0).trans rfl; have f1 := (blk_cell HT6.out.blk 1).trans rfl; have g0 := blk_frozen HT6.out.blk 0; have g1 := blk_frozen HT6.out.blk 1; clear hR6 hb6)
            go_meet
            exact ⟨v5, _, sq + 1, _, _, two_put HT6.out.heap HT6.out.blk HR6.out HT6.out.below HT6.out.ge, HP.out.push tt id, by rw [HXX.out.2.2]; omega, by omega, by omega⟩
          · have q3 : decide (r < 4) = false := decide_eq_false (by omega)
            have q4 : (r == 4) = true := by rw [beq_iff_eq]; exact h4
            have H4 := Aside0.mk h4
            clear h4
            have HXX := Aside0.mk (show x.length ≤ 1000 ∧ l.length ≤ 1000 by have := HXL.out; omega)
            obtain ⟨bb, hbb⟩ : ∃ bb, decide ((del x tt).length < x.length) = bb := ⟨_, rfl⟩
            have HRC := Aside0.mk (hbb ▸ rcancel w.heap.size w3 (.slice Ax x.length cx) x sq tt HT2.out.row HT2.out.below.size HXX.out.1)
            have HCC := Aside0.mk (fun (W : World) (vx' : Value) (hT : Two w p px W v l sq vx' (del x tt) sq) => hbb ▸ two_cancel tt hT HP.out HXX.out.2)
            have q5 : (bb != bb) = false := bne_self_eq_false bb
            clear hbb
            go_upto_region 20 with (go_at_call 46; (with_reducible refine HRC.out.mono ?_); rintro e w6 ⟨A6, n6, c6, rfl, hR6, hb6⟩; have HR6 := Aside0.mk (hR6.below (below_alloc (Below.refl _ _) (.cells #[.slice A6 n6 c6, .int .u64 sq] 97))); have hb7 := below_alloc hb6 (.cells #[.slice A6 n6 c6, .int .u64 sq] 97); have HT6 := Aside0.mk (HT2.out.on hb7); have HZ6 := Aside0.mk (blk_below HZ.out hb7); have HY6 := Aside0.mk (blk_new w6 (.cells #[.slice A6 n6 c6, .int .u64 sq] 97)); clear hR6 hb6 hb7)
            obtain ⟨y, hy⟩ : ∃ y, w6.heap.size = y := ⟨_, rfl⟩
            rw [hy] at HY6 ⊢
            clear hy z1 z2 p0 p1
            change Code.wp _ _ _ _ (w6.alloc (.cells #[.slice A6 n6 c6, .int .u64 sq] 97))
            generalize w6.alloc (.cells #[.slice A6 n6 c6, .int .u64 sq] 97) = w7 at HR6 HT6 HZ6 HY6 ⊢
            have y0 : w7.cell? ⟨y, 0, none⟩ = some (.slice A6 n6 c6) := (blk_cell HY6.out 0).trans rfl
            have y1 : w7.cell? ⟨y, 1, none⟩ = some (.int .u64 sq) := (blk_cell HY6.out 1).trans rfl
            have f0 := (blk_cell HT6.out.blk 0).trans rfl
            have f1 := (blk_cell HT6.out.blk 1).trans rfl
            have g0 := blk_frozen HT6.out.blk 0
            have g1 := blk_frozen HT6.out.blk 1
            go_upto_region 21 with (fail)
            have HZX := Aside0.mk (show z ≠ px from blk_ne HZ6.out HT6.out.blk (by decide))
            have HT8 := Aside0.mk (two_put HT6.out.heap HT6.out.blk HR6.out HT6.out.below HT6.out.ge (sx' := sq))
            have HZ8 := Aside0.mk (blk_far (blk_far HZ6.out (p := ⟨px, 0, none⟩) HZX.out (.slice A6 n6 c6)) (p := ⟨px, 1, none⟩) HZX.out (.int .u64 sq))
            clear y0 y1 f0 f1 g0 g1
            change Code.wp _ _ _ _ ((w7.setCell ⟨px, 0, none⟩ (.slice A6 n6 c6)).setCell ⟨px, 1, none⟩ (.int .u64 sq))
            generalize (w7.setCell ⟨px, 0, none⟩ (.slice A6 n6 c6)).setCell ⟨px, 1, none⟩ (.int .u64 sq) = w8 at HT8 HZ8 ⊢
            have z2 : w8.cell? ⟨z, 2, none⟩ = some (.int .u64 tt) := (blk_cell HZ8.out 2).trans rfl
            go_wp2_with (go_at_call 41; (with_reducible refine (HCC.out w8 _ HT8.out).mono ?_); rintro e w9 ⟨rfl, v9, l9, hT9, hP9, hl9⟩; have HT9 := Aside0.mk hT9; have HP9 := Aside0.mk hP9; have HL9 := Aside0.mk hl9; clear hT9 hP9 hl9)
            go_meet
            exact ⟨v9, l9, sq, _, _, HT9.out, HP9.out, by have := HL9.out; omega, hs0, by omega⟩
          · have q3 : decide (r < 4) = false := decide_eq_false (by omega)
            have q4 : (r == 4) = false := by rw [beq_eq_false_iff_ne]; omega
            have HXX := Aside0.mk (show x.length ≤ 1000 ∧ l.length ≤ 1000 ∧ (wk x tt).length ≤ 1000 by have := HXL.out; have := wk_len x tt; omega)
            go_upto_region 11 with (go_at_call 47; (with_reducible refine (rwake w w3 _ x sq tt HT2.out.row HT2.out.below HXX.out.1).mono ?_); rintro e w6 ⟨A6, n6, c6, A7, n7, c7, rfl, hR6, hR7, hb6, hk6⟩; have hrf := HT2.out.ref hb6 hk6; have HR6 := Aside0.mk (hR6.below (below_alloc (Below.refl _ _) (.cells #[.slice A6 n6 c6, .int .u64 sq] 97))); have HR7 := Aside0.mk (hR7.below (below_alloc (Below.refl _ _) (.cells #[.slice A6 n6 c6, .int .u64 sq] 97))); have HH6 := Aside0.mk (hrf.1.below (below_alloc (Below.refl _ _) (.cells #[.slice A6 n6 c6, .int .u64 sq] 97))); have HX6 := Aside0.mk (blk_alloc hrf.2 (.cells #[.slice A6 n6 c6, .int .u64 sq] 97)); have HB6 := Aside0.mk (below_then hb6 hb6.size (below_alloc (Below.refl _ _) (.cells #[.slice A6 n6 c6, .int .u64 sq] 97))); have HZ6 := Aside0.mk (blk_alloc (blk_kept HZ.out hk6 (fun e => by obtain ⟨_, cells, hc⟩ := HT2.out.row.own _ e; have hz := HZ.out; rw [hc] at hz; injection hz with hz; injection hz with _ hz; cases hz)) (.cells #[.slice A6 n6 c6, .int .u64 sq] 97)); have HY6 := Aside0.mk (blk_new w6 (.cells #[.slice A6 n6 c6, .int .u64 sq] 97)); clear hrf hR6 hR7 hb6 hk6)
            obtain ⟨y, hy⟩ : ∃ y, w6.heap.size = y := ⟨_, rfl⟩
            rw [hy] at HY6 ⊢
            clear hy z1 z2 p0 p1
            change Code.wp _ _ _ _ (w6.alloc (.cells #[.slice A6 n6 c6, .int .u64 sq] 97))
            generalize w6.alloc (.cells #[.slice A6 n6 c6, .int .u64 sq] 97) = w7 at HR6 HR7 HH6 HX6 HB6 HZ6 HY6 ⊢
            have y0 : w7.cell? ⟨y, 0, none⟩ = some (.slice A6 n6 c6) := (blk_cell HY6.out 0).trans rfl
            have y1 : w7.cell? ⟨y, 1, none⟩ = some (.int .u64 sq) := (blk_cell HY6.out 1).trans rfl
            have f0 := (blk_cell HX6.out 0).trans rfl
            have f1 := (blk_cell HX6.out 1).trans rfl
            have g0 := blk_frozen HX6.out 0
            have g1 := blk_frozen HX6.out 1
            go_upto_region 12 with (fail)
            have HZX := Aside0.mk (show z ≠ px from blk_ne HZ6.out HX6.out (by decide))
            have HT8 := Aside0.mk (two_put HH6.out HX6.out HR6.out HB6.out HT2.out.ge (sx' := sq))
            have HZ8 := Aside0.mk (blk_far (blk_far HZ6.out (p := ⟨px, 0, none⟩) HZX.out (.slice A6 n6 c6)) (p := ⟨px, 1, none⟩) HZX.out (.int .u64 sq))
            have HR8 := Aside0.mk ((HR7.out.set HX6.out (by decide) 0 (.slice A6 n6 c6)).set (blk_set HX6.out 0 (.slice A6 n6 c6)) (by decide) 1 (.int .u64 sq))
            clear y0 y1 f0 f1 g0 g1
            change Code.wp _ _ _ _ ((w7.setCell ⟨px, 0, none⟩ (.slice A6 n6 c6)).setCell ⟨px, 1, none⟩ (.int .u64 sq))
            generalize (w7.setCell ⟨px, 0, none⟩ (.slice A6 n6 c6)).setCell ⟨px, 1, none⟩ (.int .u64 sq) = w8 at HT8 HZ8 HR8 ⊢
            have z2 : w8.cell? ⟨z, 2, none⟩ = some (.int .u64 tt) := (blk_cell HZ8.out 2).trans rfl
            go_wp2_with (first
              | (go_at_call 42; (with_reducible refine (two_wake tt _ HT8.out HR8.out HP.out HXX.out.2.1).mono ?_); rintro e w9 ⟨vo, v9, l9, rfl, hO9, hR9, hT9, hP9, hl9⟩; have HO9 := Aside0.mk hO9; have HR9 := Aside0.mk hR9; have HT9 := Aside0.mk hT9; have HP9 := Aside0.mk hP9; have HL9 := Aside0.mk hl9; clear hO9 hR9 hT9 hP9 hl9)
              | (go_at_call 48; (with_reducible refine (rsame w9 _ _ _ _ _ _ HO9.out HR9.out rfl HXX.out.2.2).mono ?_); rintro e w10 ⟨rfl, n10, hw⟩; have HT10 := Aside0.mk (show Two w p px w10 v9 l9 sq (.slice A6 n6 c6) (nw x tt) sq from hw ▸ HT9.out.on (pw_below_drewN (Below.refl _ _) n10)); clear hw))
            go_meet
            exact ⟨v9, l9, sq, _, _, HT10.out, HP9.out, by have := HL9.out; omega, hs0, by omega⟩
        case rest =>
          clear HT2 HTD HP HZ HZD
          obtain ⟨v, l, sq, vx, x, hT, hP, hlk, hs0, hs1⟩ := hcut
          have HT := Aside0.mk hT
          have HP := Aside0.mk hP
          have HKB := Aside0.mk (And.intro hlk (And.intro hs0 hs1))
          have HLE := Aside0.mk (hP.len)
          have HLL := Aside0.mk (show l.length ≤ 1000 by omega)
          clear hT hP hlk hs0 hs1
          rcases Nat.eq_zero_or_pos x.length with h0 | h0
          · obtain rfl : x = [] := List.eq_nil_of_length_eq_zero h0
            obtain rfl : l = [] := List.eq_nil_of_length_eq_zero (by rw [HLE.out]; exact h0)
            obtain ⟨Ax, cx, evx⟩ : ∃ A c, vx = .slice A 0 c := by obtain ⟨A, c, e, _⟩ := HT.out.row.slice; exact ⟨A, c, e⟩
            subst evx
            clear h0
            have HLE := Aside0.mk (show ([] : List It).length = 0 from rfl)
            go_upto_region 24 with (go_at_call 44; (with_reducible refine (two_min0 HT.out).mono ?_); rintro e w4 ⟨rfl, hT4⟩; have HT4 := Aside0.mk hT4; clear hT4)
            have HT5 := Aside0.mk ((HT4.out.on (below_alloc (Below.refl _ _) (.cells #[.int .u64 0, .int .u64 0, .int .i64 0] 88))).drew)
            have HY5 := Aside0.mk (blk_drew (blk_new w4 (.cells #[.int .u64 0, .int .u64 0, .int .i64 0] 88)))
            have HXX := Aside0.mk (show ([] : List It).length ≤ 1000 by simp)
            obtain ⟨zi, hzi⟩ : ∃ zi, w4.heap.size = zi := ⟨_, rfl⟩
            rw [hzi] at HY5 ⊢
            clear hzi
            change Code.wp _ _ _ _ (w4.alloc (.cells #[.int .u64 0, .int .u64 0, .int .i64 0] 88))
            generalize w4.alloc (.cells #[.int .u64 0, .int .u64 0, .int .i64 0] 88) = w5 at HT5 HY5 ⊢
            have c0 : w5.drew.cell? ⟨px, 0, none⟩ = some (.slice Ax 0 cx) := (blk_cell HT5.out.blk 0).trans rfl
            have c1 : w5.drew.cell? ⟨zi, 0, none⟩ = some (.int .u64 0) := (blk_cell HY5.out 0).trans rfl
            refine wp_region_held_drew (S := (fun w' => w'.cell? ⟨px, 0, none⟩ = some (.slice Ax 0 cx) ∧ w'.cell? ⟨zi, 0, none⟩ = some (.int .u64 0))) (by kernel_rfl) (by (try dsimp only); (first | exact ⟨c0, c1⟩ | exact ⟨m0, m1⟩ | exact ⟨o0, o1⟩)) (fun hHeld => ?_)
            first | (refine take_at (i := 1) rfl (d := some 87) rfl (by kernel_rfl) (by kernel_rfl) (by kernel_rfl) (fun _ _ _ h => h) (Or.inr ⟨?_, rfl⟩) hHeld ?_; (focus (first | (go_simp; done) | (go_simp; unfold undef; simp; done)))) | (refine take_at (i := 1) (v := ?_) rfl (d := some 87) rfl (by kernel_rfl) (by kernel_rfl) (by kernel_rfl) (fun _ _ _ h => h) (Or.inl ⟨?_, ?_⟩) hHeld ?_; rotate_left; (focus (go_simp; done)); (focus (intro w hSw; (try dsimp only at hSw); go_simp; try (with_reducible rfl))))
            try simp only [Act.put, List.setIfInBounds_toArray, List.set_cons_zero, List.set_cons_succ]
            first | (refine take_at (i := 2) rfl (d := some 88) rfl (by kernel_rfl) (by kernel_rfl) (by kernel_rfl) (fun _ _ _ h => h) (Or.inr ⟨?_, rfl⟩) hHeld ?_; (focus (first | (go_simp; done) | (go_simp; unfold undef; simp; done)))) | (refine take_at (i := 2) (v := ?_) rfl (d := some 88) rfl (by kernel_rfl) (by kernel_rfl) (by kernel_rfl) (fun _ _ _ h => h) (Or.inl ⟨?_, ?_⟩) hHeld ?_; rotate_left; (focus (go_simp; done)); (focus (intro w hSw; (try dsimp only at hSw); go_simp; try (with_reducible rfl))))
            try simp only [Act.put, List.setIfInBounds_toArray, List.set_cons_zero, List.set_cons_succ]
            refine wpAnyH_ready (rs := [0]) (by kernel_rfl) (by simp) ?_
            refine AllReadyH.cons (o := _) rfl (fun K hK => ?_) AllReadyH.nil
            go_simp
            (go_at_call 49; (with_reducible refine (two_list HT5.out HP.out HLL.out).mono ?_); rintro e w6 ⟨vo, rfl, hO6, hT6, hb6⟩; have HO6 := Aside0.mk hO6; have HT6 := Aside0.mk hT6; have HY6 := Aside0.mk (blk_below HY5.out hb6); have m0 : w6.cell? ⟨px, 0, none⟩ = some (.slice Ax 0 cx) := (blk_cell HT6.out.blk 0).trans rfl; have m1 : w6.cell? ⟨zi, 0, none⟩ = some (.int .u64 0) := (blk_cell HY6.out 0).trans rfl; clear hO6 hT6 hb6)
            refine hK.out _ _ (by (try dsimp only); (first | exact ⟨c0, c1⟩ | exact ⟨m0, m1⟩ | exact ⟨o0, o1⟩)) (fun hHeld2 => ?_)
            clear hK K hHeld
            have hHeld := hHeld2
            clear hHeld2
            try simp only [Act.put, List.setIfInBounds_toArray, List.set_cons_zero, List.set_cons_succ]
            refine wpAnyH_ready (rs := [3]) (by kernel_rfl) (by simp) ?_
            refine AllReadyH.cons (o := _) rfl (fun K hK => ?_) AllReadyH.nil
            go_simp
            (go_at_call 48; (with_reducible refine (two_same HT6.out HO6.out HXX.out).mono ?_); rintro e w7 ⟨rfl, hT7, hb7⟩; have HT7 := Aside0.mk hT7; have HY7 := Aside0.mk (blk_below HY6.out hb7); have o0 : w7.cell? ⟨px, 0, none⟩ = some (.slice Ax 0 cx) := (blk_cell HT7.out.blk 0).trans rfl; have o1 : w7.cell? ⟨zi, 0, none⟩ = some (.int .u64 0) := (blk_cell HY7.out 0).trans rfl; clear hT7 hb7)
            refine hK.out _ _ (by (try dsimp only); (first | exact ⟨c0, c1⟩ | exact ⟨m0, m1⟩ | exact ⟨o0, o1⟩)) (fun hHeld2 => ?_)
            clear hK K hHeld
            have hHeld := hHeld2
            clear hHeld2
            try simp only [Act.put, List.setIfInBounds_toArray, List.set_cons_zero, List.set_cons_succ]
            first | (refine take_at (i := 4) rfl (d := some 90) rfl (by kernel_rfl) (by kernel_rfl) (by kernel_rfl) (fun _ _ _ h => h) (Or.inr ⟨?_, rfl⟩) hHeld ?_; (focus (first | (go_simp; done) | (go_simp; unfold undef; simp; done)))) | (refine take_at (i := 4) (v := ?_) rfl (d := some 90) rfl (by kernel_rfl) (by kernel_rfl) (by kernel_rfl) (fun _ _ _ h => h) (Or.inl ⟨?_, ?_⟩) hHeld ?_; rotate_left; (focus (go_simp; done)); (focus (intro w hSw; (try dsimp only at hSw); go_simp; try (with_reducible rfl))))
            try simp only [Act.put, List.setIfInBounds_toArray, List.set_cons_zero, List.set_cons_succ]
            first | (refine take_at (i := 5) rfl (d := some 91) rfl (by kernel_rfl) (by kernel_rfl) (by kernel_rfl) (fun _ _ _ h => h) (Or.inr ⟨?_, rfl⟩) hHeld ?_; (focus (first | (go_simp; done) | (go_simp; unfold undef; simp; done)))) | (refine take_at (i := 5) (v := ?_) rfl (d := some 91) rfl (by kernel_rfl) (by kernel_rfl) (by kernel_rfl) (fun _ _ _ h => h) (Or.inl ⟨?_, ?_⟩) hHeld ?_; rotate_left; (focus (go_simp; done)); (focus (intro w hSw; (try dsimp only at hSw); go_simp; try (with_reducible rfl))))
            try simp only [Act.put, List.setIfInBounds_toArray, List.set_cons_zero, List.set_cons_succ]
            first | (refine take_at (i := 7) rfl (d := some 93) rfl (by kernel_rfl) (by kernel_rfl) (by kernel_rfl) (fun _ _ _ h => h) (Or.inr ⟨?_, rfl⟩) hHeld ?_; (focus (first | (go_simp; done) | (go_simp; unfold undef; simp; done)))) | (refine take_at (i := 7) (v := ?_) rfl (d := some 93) rfl (by kernel_rfl) (by kernel_rfl) (by kernel_rfl) (fun _ _ _ h => h) (Or.inl ⟨?_, ?_⟩) hHeld ?_; rotate_left; (focus (go_simp; done)); (focus (intro w hSw; (try dsimp only at hSw); go_simp; try (with_reducible rfl))))
            try simp only [Act.put, List.setIfInBounds_toArray, List.set_cons_zero, List.set_cons_succ]
            first | (refine take_at (i := 8) rfl (d := some 94) rfl (by kernel_rfl) (by kernel_rfl) (by kernel_rfl) (fun _ _ _ h => h) (Or.inr ⟨?_, rfl⟩) hHeld ?_; (focus (first | (go_simp; done) | (go_simp; unfold undef; simp; done)))) | (refine take_at (i := 8) (v := ?_) rfl (d := some 94) rfl (by kernel_rfl) (by kernel_rfl) (by kernel_rfl) (fun _ _ _ h => h) (Or.inl ⟨?_, ?_⟩) hHeld ?_; rotate_left; (focus (go_simp; done)); (focus (intro w hSw; (try dsimp only at hSw); go_simp; try (with_reducible rfl))))
            try simp only [Act.put, List.setIfInBounds_toArray, List.set_cons_zero, List.set_cons_succ]
            first | (refine take_at (i := 9) rfl (d := some 95) rfl (by kernel_rfl) (by kernel_rfl) (by kernel_rfl) (fun _ _ _ h => h) (Or.inr ⟨?_, rfl⟩) hHeld ?_; (focus (first | (go_simp; done) | (go_simp; unfold undef; simp; done)))) | (refine take_at (i := 9) (v := ?_) rfl (d := some 95) rfl (by kernel_rfl) (by kernel_rfl) (by kernel_rfl) (fun _ _ _ h => h) (Or.inl ⟨?_, ?_⟩) hHeld ?_; rotate_left; (focus (go_simp; done)); (focus (intro w hSw; (try dsimp only at hSw); go_simp; try (with_reducible rfl))))
            try simp only [Act.put, List.setIfInBounds_toArray, List.set_cons_zero, List.set_cons_succ]
            refine wpAnyH_ready (rs := [6]) (by kernel_rfl) (by simp) ?_
            refine AllReadyH.cons (o := _) rfl (fun K hK => ?_) AllReadyH.nil
            go_simp
            (go_at_call 43; (with_reducible refine (two_len0 HT7.out).mono ?_); rintro e w8 ⟨rfl, rfl⟩)
            refine hK.out _ _ (by (try dsimp only); (first | exact ⟨c0, c1⟩ | exact ⟨m0, m1⟩ | exact ⟨o0, o1⟩)) (fun hHeld2 => ?_)
            clear hK K hHeld
            have hHeld := hHeld2
            clear hHeld2
            try simp only [Act.put, List.setIfInBounds_toArray, List.set_cons_zero, List.set_cons_succ]
            first | (refine take_at (i := 10) rfl (d := some 96) rfl (by kernel_rfl) (by kernel_rfl) (by kernel_rfl) (fun _ _ _ h => h) (Or.inr ⟨?_, rfl⟩) hHeld ?_; (focus (first | (go_simp; done) | (go_simp; unfold undef; simp; done)))) | (refine take_at (i := 10) (v := ?_) rfl (d := some 96) rfl (by kernel_rfl) (by kernel_rfl) (by kernel_rfl) (fun _ _ _ h => h) (Or.inl ⟨?_, ?_⟩) hHeld ?_; rotate_left; (focus (go_simp; done)); (focus (intro w hSw; (try dsimp only at hSw); go_simp; try (with_reducible rfl))))
            try simp only [Act.put, List.setIfInBounds_toArray, List.set_cons_zero, List.set_cons_succ]
            first | (refine take_at (i := 11) rfl (d := some 97) rfl (by kernel_rfl) (by kernel_rfl) (by kernel_rfl) (fun _ _ _ h => h) (Or.inr ⟨?_, rfl⟩) hHeld ?_; (focus (first | (go_simp; done) | (go_simp; unfold undef; simp; done)))) | (refine take_at (i := 11) (v := ?_) rfl (d := some 97) rfl (by kernel_rfl) (by kernel_rfl) (by kernel_rfl) (fun _ _ _ h => h) (Or.inl ⟨?_, ?_⟩) hHeld ?_; rotate_left; (focus (go_simp; done)); (focus (intro w hSw; (try dsimp only at hSw); go_simp; try (with_reducible rfl))))
            try simp only [Act.put, List.setIfInBounds_toArray, List.set_cons_zero, List.set_cons_succ]
            first | (refine take_at (i := 12) rfl (d := some 98) rfl (by kernel_rfl) (by kernel_rfl) (by kernel_rfl) (fun _ _ _ h => h) (Or.inr ⟨?_, rfl⟩) hHeld ?_; (focus (first | (go_simp; done) | (go_simp; unfold undef; simp; done)))) | (refine take_at (i := 12) (v := ?_) rfl (d := some 98) rfl (by kernel_rfl) (by kernel_rfl) (by kernel_rfl) (fun _ _ _ h => h) (Or.inl ⟨?_, ?_⟩) hHeld ?_; rotate_left; (focus (go_simp; done)); (focus (intro w hSw; (try dsimp only at hSw); go_simp; try (with_reducible rfl))))
            try simp only [Act.put, List.setIfInBounds_toArray, List.set_cons_zero, List.set_cons_succ]
            first | (refine take_at (i := 13) rfl (d := some 99) rfl (by kernel_rfl) (by kernel_rfl) (by kernel_rfl) (fun _ _ _ h => h) (Or.inr ⟨?_, rfl⟩) hHeld ?_; (focus (first | (go_simp; done) | (go_simp; unfold undef; simp; done)))) | (refine take_at (i := 13) (v := ?_) rfl (d := some 99) rfl (by kernel_rfl) (by kernel_rfl) (by kernel_rfl) (fun _ _ _ h => h) (Or.inl ⟨?_, ?_⟩) hHeld ?_; rotate_left; (focus (go_simp; done)); (focus (intro w hSw; (try dsimp only at hSw); go_simp; try (with_reducible rfl))))
            try simp only [Act.put, List.setIfInBounds_toArray, List.set_cons_zero, List.set_cons_succ]
            first | (refine take_at (i := 14) rfl (d := some 100) rfl (by kernel_rfl) (by kernel_rfl) (by kernel_rfl) (fun _ _ _ h => h) (Or.inr ⟨?_, rfl⟩) hHeld ?_; (focus (first | (go_simp; done) | (go_simp; unfold undef; simp; done)))) | (refine take_at (i := 14) (v := ?_) rfl (d := some 100) rfl (by kernel_rfl) (by kernel_rfl) (by kernel_rfl) (fun _ _ _ h => h) (Or.inl ⟨?_, ?_⟩) hHeld ?_; rotate_left; (focus (go_simp; done)); (focus (intro w hSw; (try dsimp only at hSw); go_simp; try (with_reducible rfl))))
            try simp only [Act.put, List.setIfInBounds_toArray, List.set_cons_zero, List.set_cons_succ]
            first | (refine take_at (i := 15) rfl (d := some 101) rfl (by kernel_rfl) (by kernel_rfl) (by kernel_rfl) (fun _ _ _ h => h) (Or.inr ⟨?_, rfl⟩) hHeld ?_; (focus (first | (go_simp; done) | (go_simp; unfold undef; simp; done)))) | (refine take_at (i := 15) (v := ?_) rfl (d := some 101) rfl (by kernel_rfl) (by kernel_rfl) (by kernel_rfl) (fun _ _ _ h => h) (Or.inl ⟨?_, ?_⟩) hHeld ?_; rotate_left; (focus (go_simp; done)); (focus (intro w hSw; (try dsimp only at hSw); go_simp; try (with_reducible rfl))))
            try simp only [Act.put, List.setIfInBounds_toArray, List.set_cons_zero, List.set_cons_succ]
            first | (refine take_at (i := 16) rfl (d := some 102) rfl (by kernel_rfl) (by kernel_rfl) (by kernel_rfl) (fun _ _ _ h => h) (Or.inr ⟨?_, rfl⟩) hHeld ?_; (focus (first | (go_simp; done) | (go_simp; unfold undef; simp; done)))) | (refine take_at (i := 16) (v := ?_) rfl (d := some 102) rfl (by kernel_rfl) (by kernel_rfl) (by kernel_rfl) (fun _ _ _ h => h) (Or.inl ⟨?_, ?_⟩) hHeld ?_; rotate_left; (focus (go_simp; done)); (focus (intro w hSw; (try dsimp only at hSw); go_simp; try (with_reducible rfl))))
            try simp only [Act.put, List.setIfInBounds_toArray, List.set_cons_zero, List.set_cons_succ]
            first | (refine take_at (i := 17) rfl (d := some 103) rfl (by kernel_rfl) (by kernel_rfl) (by kernel_rfl) (fun _ _ _ h => h) (Or.inr ⟨?_, rfl⟩) hHeld ?_; (focus (first | (go_simp; done) | (go_simp; unfold undef; simp; done)))) | (refine take_at (i := 17) (v := ?_) rfl (d := some 103) rfl (by kernel_rfl) (by kernel_rfl) (by kernel_rfl) (fun _ _ _ h => h) (Or.inl ⟨?_, ?_⟩) hHeld ?_; rotate_left; (focus (go_simp; done)); (focus (intro w hSw; (try dsimp only at hSw); go_simp; try (with_reducible rfl))))
            try simp only [Act.put, List.setIfInBounds_toArray, List.set_cons_zero, List.set_cons_succ]
            first | (refine take_at (i := 18) rfl (d := some 104) rfl (by kernel_rfl) (by kernel_rfl) (by kernel_rfl) (fun _ _ _ h => h) (Or.inr ⟨?_, rfl⟩) hHeld ?_; (focus (first | (go_simp; done) | (go_simp; unfold undef; simp; done)))) | (refine take_at (i := 18) (v := ?_) rfl (d := some 104) rfl (by kernel_rfl) (by kernel_rfl) (by kernel_rfl) (fun _ _ _ h => h) (Or.inl ⟨?_, ?_⟩) hHeld ?_; rotate_left; (focus (go_simp; done)); (focus (intro w hSw; (try dsimp only at hSw); go_simp; try (with_reducible rfl))))
            try simp only [Act.put, List.setIfInBounds_toArray, List.set_cons_zero, List.set_cons_succ]
            first | (refine take_at (i := 19) rfl (d := some 105) rfl (by kernel_rfl) (by kernel_rfl) (by kernel_rfl) (fun _ _ _ h => h) (Or.inr ⟨?_, rfl⟩) hHeld ?_; (focus (first | (go_simp; done) | (go_simp; unfold undef; simp; done)))) | (refine take_at (i := 19) (v := ?_) rfl (d := some 105) rfl (by kernel_rfl) (by kernel_rfl) (by kernel_rfl) (fun _ _ _ h => h) (Or.inl ⟨?_, ?_⟩) hHeld ?_; rotate_left; (focus (go_simp; done)); (focus (intro w hSw; (try dsimp only at hSw); go_simp; try (with_reducible rfl))))
            try simp only [Act.put, List.setIfInBounds_toArray, List.set_cons_zero, List.set_cons_succ]
            first | (refine take_at (i := 20) rfl (d := some 106) rfl (by kernel_rfl) (by kernel_rfl) (by kernel_rfl) (fun _ _ _ h => h) (Or.inr ⟨?_, rfl⟩) hHeld ?_; (focus (first | (go_simp; done) | (go_simp; unfold undef; simp; done)))) | (refine take_at (i := 20) (v := ?_) rfl (d := some 106) rfl (by kernel_rfl) (by kernel_rfl) (by kernel_rfl) (fun _ _ _ h => h) (Or.inl ⟨?_, ?_⟩) hHeld ?_; rotate_left; (focus (go_simp; done)); (focus (intro w hSw; (try dsimp only at hSw); go_simp; try (with_reducible rfl))))
            try simp only [Act.put, List.setIfInBounds_toArray, List.set_cons_zero, List.set_cons_succ]
            first | (refine take_at (i := 21) rfl (d := some 107) rfl (by kernel_rfl) (by kernel_rfl) (by kernel_rfl) (fun _ _ _ h => h) (Or.inr ⟨?_, rfl⟩) hHeld ?_; (focus (first | (go_simp; done) | (go_simp; unfold undef; simp; done)))) | (refine take_at (i := 21) (v := ?_) rfl (d := some 107) rfl (by kernel_rfl) (by kernel_rfl) (by kernel_rfl) (fun _ _ _ h => h) (Or.inl ⟨?_, ?_⟩) hHeld ?_; rotate_left; (focus (go_simp; done)); (focus (intro w hSw; (try dsimp only at hSw); go_simp; try (with_reducible rfl))))
            try simp only [Act.put, List.setIfInBounds_toArray, List.set_cons_zero, List.set_cons_succ]
            first | (refine take_at (i := 22) rfl (d := some 108) rfl (by kernel_rfl) (by kernel_rfl) (by kernel_rfl) (fun _ _ _ h => h) (Or.inr ⟨?_, rfl⟩) hHeld ?_; (focus (first | (go_simp; done) | (go_simp; unfold undef; simp; done)))) | (refine take_at (i := 22) (v := ?_) rfl (d := some 108) rfl (by kernel_rfl) (by kernel_rfl) (by kernel_rfl) (fun _ _ _ h => h) (Or.inl ⟨?_, ?_⟩) hHeld ?_; rotate_left; (focus (go_simp; done)); (focus (intro w hSw; (try dsimp only at hSw); go_simp; try (with_reducible rfl))))
            try simp only [Act.put, List.setIfInBounds_toArray, List.set_cons_zero, List.set_cons_succ]
            first | (refine take_at (i := 23) rfl (d := some 109) rfl (by kernel_rfl) (by kernel_rfl) (by kernel_rfl) (fun _ _ _ h => h) (Or.inr ⟨?_, rfl⟩) hHeld ?_; (focus (first | (go_simp; done) | (go_simp; unfold undef; simp; done)))) | (refine take_at (i := 23) (v := ?_) rfl (d := some 109) rfl (by kernel_rfl) (by kernel_rfl) (by kernel_rfl) (fun _ _ _ h => h) (Or.inl ⟨?_, ?_⟩) hHeld ?_; rotate_left; (focus (go_simp; done)); (focus (intro w hSw; (try dsimp only at hSw); go_simp; try (with_reducible rfl))))
            try simp only [Act.put, List.setIfInBounds_toArray, List.set_cons_zero, List.set_cons_succ]
            first | (refine take_at (i := 24) rfl (d := some 110) rfl (by kernel_rfl) (by kernel_rfl) (by kernel_rfl) (fun _ _ _ h => h) (Or.inr ⟨?_, rfl⟩) hHeld ?_; (focus (first | (go_simp; done) | (go_simp; unfold undef; simp; done)))) | (refine take_at (i := 24) (v := ?_) rfl (d := some 110) rfl (by kernel_rfl) (by kernel_rfl) (by kernel_rfl) (fun _ _ _ h => h) (Or.inl ⟨?_, ?_⟩) hHeld ?_; rotate_left; (focus (go_simp; done)); (focus (intro w hSw; (try dsimp only at hSw); go_simp; try (with_reducible rfl))))
            try simp only [Act.put, List.setIfInBounds_toArray, List.set_cons_zero, List.set_cons_succ]
            first | (refine take_at (i := 25) rfl (d := some 111) rfl (by kernel_rfl) (by kernel_rfl) (by kernel_rfl) (fun _ _ _ h => h) (Or.inr ⟨?_, rfl⟩) hHeld ?_; (focus (first | (go_simp; done) | (go_simp; unfold undef; simp; done)))) | (refine take_at (i := 25) (v := ?_) rfl (d := some 111) rfl (by kernel_rfl) (by kernel_rfl) (by kernel_rfl) (fun _ _ _ h => h) (Or.inl ⟨?_, ?_⟩) hHeld ?_; rotate_left; (focus (go_simp; done)); (focus (intro w hSw; (try dsimp only at hSw); go_simp; try (with_reducible rfl))))
            try simp only [Act.put, List.setIfInBounds_toArray, List.set_cons_zero, List.set_cons_succ]
            first | (refine take_at (i := 26) rfl (d := some 112) rfl (by kernel_rfl) (by kernel_rfl) (by kernel_rfl) (fun _ _ _ h => h) (Or.inr ⟨?_, rfl⟩) hHeld ?_; (focus (first | (go_simp; done) | (go_simp; unfold undef; simp; done)))) | (refine take_at (i := 26) (v := ?_) rfl (d := some 112) rfl (by kernel_rfl) (by kernel_rfl) (by kernel_rfl) (fun _ _ _ h => h) (Or.inl ⟨?_, ?_⟩) hHeld ?_; rotate_left; (focus (go_simp; done)); (focus (intro w hSw; (try dsimp only at hSw); go_simp; try (with_reducible rfl))))
            try simp only [Act.put, List.setIfInBounds_toArray, List.set_cons_zero, List.set_cons_succ]
            first | (refine take_at (i := 27) rfl (d := some 113) rfl (by kernel_rfl) (by kernel_rfl) (by kernel_rfl) (fun _ _ _ h => h) (Or.inr ⟨?_, rfl⟩) hHeld ?_; (focus (first | (go_simp; done) | (go_simp; unfold undef; simp; done)))) | (refine take_at (i := 27) (v := ?_) rfl (d := some 113) rfl (by kernel_rfl) (by kernel_rfl) (by kernel_rfl) (fun _ _ _ h => h) (Or.inl ⟨?_, ?_⟩) hHeld ?_; rotate_left; (focus (go_simp; done)); (focus (intro w hSw; (try dsimp only at hSw); go_simp; try (with_reducible rfl))))
            try simp only [Act.put, List.setIfInBounds_toArray, List.set_cons_zero, List.set_cons_succ]
            first | (refine take_at (i := 28) rfl (d := some 114) rfl (by kernel_rfl) (by kernel_rfl) (by kernel_rfl) (fun _ _ _ h => h) (Or.inr ⟨?_, rfl⟩) hHeld ?_; (focus (first | (go_simp; done) | (go_simp; unfold undef; simp; done)))) | (refine take_at (i := 28) (v := ?_) rfl (d := some 114) rfl (by kernel_rfl) (by kernel_rfl) (by kernel_rfl) (fun _ _ _ h => h) (Or.inl ⟨?_, ?_⟩) hHeld ?_; rotate_left; (focus (go_simp; done)); (focus (intro w hSw; (try dsimp only at hSw); go_simp; try (with_reducible rfl))))
            try simp only [Act.put, List.setIfInBounds_toArray, List.set_cons_zero, List.set_cons_succ]
            first | (refine take_at (i := 29) rfl (d := some 115) rfl (by kernel_rfl) (by kernel_rfl) (by kernel_rfl) (fun _ _ _ h => h) (Or.inr ⟨?_, rfl⟩) hHeld ?_; (focus (first | (go_simp; done) | (go_simp; unfold undef; simp; done)))) | (refine take_at (i := 29) (v := ?_) rfl (d := some 115) rfl (by kernel_rfl) (by kernel_rfl) (by kernel_rfl) (fun _ _ _ h => h) (Or.inl ⟨?_, ?_⟩) hHeld ?_; rotate_left; (focus (go_simp; done)); (focus (intro w hSw; (try dsimp only at hSw); go_simp; try (with_reducible rfl))))
            try simp only [Act.put, List.setIfInBounds_toArray, List.set_cons_zero, List.set_cons_succ]
            first | (refine take_at (i := 30) rfl (d := some 116) rfl (by kernel_rfl) (by kernel_rfl) (by kernel_rfl) (fun _ _ _ h => h) (Or.inr ⟨?_, rfl⟩) hHeld ?_; (focus (first | (go_simp; done) | (go_simp; unfold undef; simp; done)))) | (refine take_at (i := 30) (v := ?_) rfl (d := some 116) rfl (by kernel_rfl) (by kernel_rfl) (by kernel_rfl) (fun _ _ _ h => h) (Or.inl ⟨?_, ?_⟩) hHeld ?_; rotate_left; (focus (go_simp; done)); (focus (intro w hSw; (try dsimp only at hSw); go_simp; try (with_reducible rfl))))
            try simp only [Act.put, List.setIfInBounds_toArray, List.set_cons_zero, List.set_cons_succ]
            refine wpAnyH_done (by kernel_rfl) ?_ _
            have hx9 := HAK.out
            have hx8 := HKB.out
            clear c0 c1 m0 m1 o0 o1 hHeld
            go_wp2
            exact ⟨⟨k + 1, v, [], sq, _, [], by omega, by go_num, HT7.out, HP.out, by simp, hx8.2.1, by have := hx8.2.2; omega⟩, by simp [intOf]; omega⟩
          · have HH0 := Aside0.mk (show 0 < l.length by have := HLE.out; omega)
            obtain ⟨gx, cx, evx, _⟩ := HT.out.row.head h0
            subst evx
            obtain ⟨y0, hy0⟩ : ∃ y, g x 0 = y := ⟨_, rfl⟩
            have HY0 := Aside0.mk (And.intro ((HP.out.least HH0.out).trans hy0) hy0)
            have HXX := Aside0.mk (show x.length ≤ 1000 by have := HLE.out; have := HLL.out; omega)
            have r1 : decide ((0 : Int) < (x.length : Int)) = true := decide_eq_true (by omega)
            have r2 : decide (0 < x.length) = true := decide_eq_true h0
            have b2 : (0 : Int) < (x.length : Int) := by omega
            have HX0 := Aside0.mk h0
            clear hy0
            go_upto_region 24 with (go_at_call 44; (with_reducible refine (two_min y0 HT.out HH0.out HY0.out.1).mono ?_); rintro e w4 ⟨rfl, hT4⟩; have HT4 := Aside0.mk hT4; clear hT4)
            have HT5 := Aside0.mk ((HT4.out.on (below_alloc (Below.refl _ _) (.cells #[.int .u64 y0.t, .int .u64 y0.s, .int .i64 y0.d] 88))).drew)
            have HY5 := Aside0.mk (blk_drew (blk_new w4 (.cells #[.int .u64 y0.t, .int .u64 y0.s, .int .i64 y0.d] 88)))
            obtain ⟨zi, hzi⟩ : ∃ zi, w4.heap.size = zi := ⟨_, rfl⟩
            rw [hzi] at HY5 ⊢
            clear hzi
            change Code.wp _ _ _ _ (w4.alloc (.cells #[.int .u64 y0.t, .int .u64 y0.s, .int .i64 y0.d] 88))
            generalize w4.alloc (.cells #[.int .u64 y0.t, .int .u64 y0.s, .int .i64 y0.d] 88) = w5 at HT5 HY5 ⊢
            have c0 : w5.drew.cell? ⟨px, 0, none⟩ = some (.slice (some ⟨gx, 0, none⟩) x.length cx) := (blk_cell HT5.out.blk 0).trans rfl
            have c1 : w5.drew.cell? ⟨zi, 0, none⟩ = some (.int .u64 y0.t) := (blk_cell HY5.out 0).trans rfl
            have c2 : w5.drew.cell? ⟨zi, 1, none⟩ = some (.int .u64 y0.s) := (blk_cell HY5.out 1).trans rfl
            have c3 : w5.drew.cell? ⟨zi, 2, none⟩ = some (.int .i64 y0.d) := (blk_cell HY5.out 2).trans rfl
            obtain ⟨gx', cx', e, c4, c5, c6⟩ := HT5.out.row.head HX0.out
            injection e with e el ec
            injection e with e
            injection e with e
            subst e
            clear el ec
            rw [HY0.out.2] at c4 c5 c6
            refine wp_region_held_drew (S := (fun w' => w'.cell? ⟨px, 0, none⟩ = some (.slice (some ⟨gx, 0, none⟩) x.length cx) ∧ w'.cell? ⟨zi, 0, none⟩ = some (.int .u64 y0.t) ∧ w'.cell? ⟨zi, 1, none⟩ = some (.int .u64 y0.s) ∧ w'.cell? ⟨zi, 2, none⟩ = some (.int .i64 y0.d) ∧ w'.cell? ⟨gx, 0, none⟩ = some (.int .u64 y0.t) ∧ w'.cell? ⟨gx, 1, none⟩ = some (.int .u64 y0.s) ∧ w'.cell? ⟨gx, 2, none⟩ = some (.int .i64 y0.d))) (by kernel_rfl) (by (try dsimp only); (first | exact ⟨c0, c1, c2, c3, c4, c5, c6⟩ | exact ⟨m0, m1, m2, m3, m4, m5, m6⟩ | exact ⟨o0, o1, o2, o3, o4, o5, o6⟩)) (fun hHeld => ?_)
            first | (refine take_at (i := 1) rfl (d := some 87) rfl (by kernel_rfl) (by kernel_rfl) (by kernel_rfl) (fun _ _ _ h => h) (Or.inr ⟨?_, rfl⟩) hHeld ?_; (focus (first | (go_simp; done) | (go_simp; unfold undef; simp; done)))) | (refine take_at (i := 1) (v := ?_) rfl (d := some 87) rfl (by kernel_rfl) (by kernel_rfl) (by kernel_rfl) (fun _ _ _ h => h) (Or.inl ⟨?_, ?_⟩) hHeld ?_; rotate_left; (focus (go_simp; done)); (focus (intro w hSw; (try dsimp only at hSw); go_simp; try (with_reducible rfl))))
            try simp only [Act.put, List.setIfInBounds_toArray, List.set_cons_zero, List.set_cons_succ]
            first | (refine take_at (i := 2) rfl (d := some 88) rfl (by kernel_rfl) (by kernel_rfl) (by kernel_rfl) (fun _ _ _ h => h) (Or.inr ⟨?_, rfl⟩) hHeld ?_; (focus (first | (go_simp; done) | (go_simp; unfold undef; simp; done)))) | (refine take_at (i := 2) (v := ?_) rfl (d := some 88) rfl (by kernel_rfl) (by kernel_rfl) (by kernel_rfl) (fun _ _ _ h => h) (Or.inl ⟨?_, ?_⟩) hHeld ?_; rotate_left; (focus (go_simp; done)); (focus (intro w hSw; (try dsimp only at hSw); go_simp; try (with_reducible rfl))))
            try simp only [Act.put, List.setIfInBounds_toArray, List.set_cons_zero, List.set_cons_succ]
            refine wpAnyH_ready (rs := [0]) (by kernel_rfl) (by simp) ?_
            refine AllReadyH.cons (o := _) rfl (fun K hK => ?_) AllReadyH.nil
            go_simp
            (go_at_call 49; (with_reducible refine (two_list HT5.out HP.out HLL.out).mono ?_); rintro e w6 ⟨vo, rfl, hO6, hT6, hb6⟩; have HO6 := Aside0.mk hO6; have HT6 := Aside0.mk hT6; have m0 := pw_cell_below hb6 c0; have m1 := pw_cell_below hb6 c1; have m2 := pw_cell_below hb6 c2; have m3 := pw_cell_below hb6 c3; have m4 := pw_cell_below hb6 c4; have m5 := pw_cell_below hb6 c5; have m6 := pw_cell_below hb6 c6; clear hO6 hT6 hb6)
            refine hK.out _ _ (by (try dsimp only); (first | exact ⟨c0, c1, c2, c3, c4, c5, c6⟩ | exact ⟨m0, m1, m2, m3, m4, m5, m6⟩ | exact ⟨o0, o1, o2, o3, o4, o5, o6⟩)) (fun hHeld2 => ?_)
            clear hK K hHeld
            have hHeld := hHeld2
            clear hHeld2
            try simp only [Act.put, List.setIfInBounds_toArray, List.set_cons_zero, List.set_cons_succ]
            refine wpAnyH_ready (rs := [3]) (by kernel_rfl) (by simp) ?_
            refine AllReadyH.cons (o := _) rfl (fun K hK => ?_) AllReadyH.nil
            go_simp
            (go_at_call 48; (with_reducible refine (two_same HT6.out HO6.out HXX.out).mono ?_); rintro e w7 ⟨rfl, hT7, hb7⟩; have HT7 := Aside0.mk hT7; have o0 := pw_cell_below hb7 m0; have o1 := pw_cell_below hb7 m1; have o2 := pw_cell_below hb7 m2; have o3 := pw_cell_below hb7 m3; have o4 := pw_cell_below hb7 m4; have o5 := pw_cell_below hb7 m5; have o6 := pw_cell_below hb7 m6; clear hT7 hb7)
            refine hK.out _ _ (by (try dsimp only); (first | exact ⟨c0, c1, c2, c3, c4, c5, c6⟩ | exact ⟨m0, m1, m2, m3, m4, m5, m6⟩ | exact ⟨o0, o1, o2, o3, o4, o5, o6⟩)) (fun hHeld2 => ?_)
            clear hK K hHeld
            have hHeld := hHeld2
            clear hHeld2
            try simp only [Act.put, List.setIfInBounds_toArray, List.set_cons_zero, List.set_cons_succ]
            first | (refine take_at (i := 4) rfl (d := some 90) rfl (by kernel_rfl) (by kernel_rfl) (by kernel_rfl) (fun _ _ _ h => h) (Or.inr ⟨?_, rfl⟩) hHeld ?_; (focus (first | (go_simp; done) | (go_simp; unfold undef; simp; done)))) | (refine take_at (i := 4) (v := ?_) rfl (d := some 90) rfl (by kernel_rfl) (by kernel_rfl) (by kernel_rfl) (fun _ _ _ h => h) (Or.inl ⟨?_, ?_⟩) hHeld ?_; rotate_left; (focus (go_simp; done)); (focus (intro w hSw; (try dsimp only at hSw); go_simp; try (with_reducible rfl))))
            try simp only [Act.put, List.setIfInBounds_toArray, List.set_cons_zero, List.set_cons_succ]
            first | (refine take_at (i := 5) rfl (d := some 91) rfl (by kernel_rfl) (by kernel_rfl) (by kernel_rfl) (fun _ _ _ h => h) (Or.inr ⟨?_, rfl⟩) hHeld ?_; (focus (first | (go_simp; done) | (go_simp; unfold undef; simp; done)))) | (refine take_at (i := 5) (v := ?_) rfl (d := some 91) rfl (by kernel_rfl) (by kernel_rfl) (by kernel_rfl) (fun _ _ _ h => h) (Or.inl ⟨?_, ?_⟩) hHeld ?_; rotate_left; (focus (go_simp; done)); (focus (intro w hSw; (try dsimp only at hSw); go_simp; try (with_reducible rfl))))
            try simp only [Act.put, List.setIfInBounds_toArray, List.set_cons_zero, List.set_cons_succ]
            first | (refine take_at (i := 7) rfl (d := some 93) rfl (by kernel_rfl) (by kernel_rfl) (by kernel_rfl) (fun _ _ _ h => h) (Or.inr ⟨?_, rfl⟩) hHeld ?_; (focus (first | (go_simp; done) | (go_simp; unfold undef; simp; done)))) | (refine take_at (i := 7) (v := ?_) rfl (d := some 93) rfl (by kernel_rfl) (by kernel_rfl) (by kernel_rfl) (fun _ _ _ h => h) (Or.inl ⟨?_, ?_⟩) hHeld ?_; rotate_left; (focus (go_simp; done)); (focus (intro w hSw; (try dsimp only at hSw); go_simp; try (with_reducible rfl))))
            try simp only [Act.put, List.setIfInBounds_toArray, List.set_cons_zero, List.set_cons_succ]
            first | (refine take_at (i := 8) rfl (d := some 94) rfl (by kernel_rfl) (by kernel_rfl) (by kernel_rfl) (fun _ _ _ h => h) (Or.inr ⟨?_, rfl⟩) hHeld ?_; (focus (first | (go_simp; done) | (go_simp; unfold undef; simp; done)))) | (refine take_at (i := 8) (v := ?_) rfl (d := some 94) rfl (by kernel_rfl) (by kernel_rfl) (by kernel_rfl) (fun _ _ _ h => h) (Or.inl ⟨?_, ?_⟩) hHeld ?_; rotate_left; (focus (go_simp; done)); (focus (intro w hSw; (try dsimp only at hSw); go_simp; try (with_reducible rfl))))
            try simp only [Act.put, List.setIfInBounds_toArray, List.set_cons_zero, List.set_cons_succ]
            first | (refine take_at (i := 9) rfl (d := some 95) rfl (by kernel_rfl) (by kernel_rfl) (by kernel_rfl) (fun _ _ _ h => h) (Or.inr ⟨?_, rfl⟩) hHeld ?_; (focus (first | (go_simp; done) | (go_simp; unfold undef; simp; done)))) | (refine take_at (i := 9) (v := ?_) rfl (d := some 95) rfl (by kernel_rfl) (by kernel_rfl) (by kernel_rfl) (fun _ _ _ h => h) (Or.inl ⟨?_, ?_⟩) hHeld ?_; rotate_left; (focus (go_simp; done)); (focus (intro w hSw; (try dsimp only at hSw); go_simp; try (with_reducible rfl))))
            try simp only [Act.put, List.setIfInBounds_toArray, List.set_cons_zero, List.set_cons_succ]
            refine wpAnyH_ready (rs := [6]) (by kernel_rfl) (by simp) ?_
            refine AllReadyH.cons (o := _) rfl (fun K hK => ?_) AllReadyH.nil
            go_simp
            (go_at_call 43; (with_reducible refine (two_len _ HT7.out HLE.out).mono ?_); rintro e w8 ⟨rfl, rfl⟩)
            refine hK.out _ _ (by (try dsimp only); (first | exact ⟨c0, c1, c2, c3, c4, c5, c6⟩ | exact ⟨m0, m1, m2, m3, m4, m5, m6⟩ | exact ⟨o0, o1, o2, o3, o4, o5, o6⟩)) (fun hHeld2 => ?_)
            clear hK K hHeld
            have hHeld := hHeld2
            clear hHeld2
            try simp only [Act.put, List.setIfInBounds_toArray, List.set_cons_zero, List.set_cons_succ]
            first | (refine take_at (i := 10) rfl (d := some 96) rfl (by kernel_rfl) (by kernel_rfl) (by kernel_rfl) (fun _ _ _ h => h) (Or.inr ⟨?_, rfl⟩) hHeld ?_; (focus (first | (go_simp; done) | (go_simp; unfold undef; simp; done)))) | (refine take_at (i := 10) (v := ?_) rfl (d := some 96) rfl (by kernel_rfl) (by kernel_rfl) (by kernel_rfl) (fun _ _ _ h => h) (Or.inl ⟨?_, ?_⟩) hHeld ?_; rotate_left; (focus (go_simp; done)); (focus (intro w hSw; (try dsimp only at hSw); go_simp; try (with_reducible rfl))))
            try simp only [Act.put, List.setIfInBounds_toArray, List.set_cons_zero, List.set_cons_succ]
            first | (refine take_at (i := 11) rfl (d := some 97) rfl (by kernel_rfl) (by kernel_rfl) (by kernel_rfl) (fun _ _ _ h => h) (Or.inr ⟨?_, rfl⟩) hHeld ?_; (focus (first | (go_simp; done) | (go_simp; unfold undef; simp; done)))) | (refine take_at (i := 11) (v := ?_) rfl (d := some 97) rfl (by kernel_rfl) (by kernel_rfl) (by kernel_rfl) (fun _ _ _ h => h) (Or.inl ⟨?_, ?_⟩) hHeld ?_; rotate_left; (focus (go_simp; done)); (focus (intro w hSw; (try dsimp only at hSw); go_simp; try (with_reducible rfl))))
            try simp only [Act.put, List.setIfInBounds_toArray, List.set_cons_zero, List.set_cons_succ]
            first | (refine take_at (i := 12) rfl (d := some 98) rfl (by kernel_rfl) (by kernel_rfl) (by kernel_rfl) (fun _ _ _ h => h) (Or.inr ⟨?_, rfl⟩) hHeld ?_; (focus (first | (go_simp; done) | (go_simp; unfold undef; simp; done)))) | (refine take_at (i := 12) (v := ?_) rfl (d := some 98) rfl (by kernel_rfl) (by kernel_rfl) (by kernel_rfl) (fun _ _ _ h => h) (Or.inl ⟨?_, ?_⟩) hHeld ?_; rotate_left; (focus (go_simp; done)); (focus (intro w hSw; (try dsimp only at hSw); go_simp; try (with_reducible rfl))))
            try simp only [Act.put, List.setIfInBounds_toArray, List.set_cons_zero, List.set_cons_succ]
            first | (refine take_at (i := 13) rfl (d := some 99) rfl (by kernel_rfl) (by kernel_rfl) (by kernel_rfl) (fun _ _ _ h => h) (Or.inr ⟨?_, rfl⟩) hHeld ?_; (focus (first | (go_simp; done) | (go_simp; unfold undef; simp; done)))) | (refine take_at (i := 13) (v := ?_) rfl (d := some 99) rfl (by kernel_rfl) (by kernel_rfl) (by kernel_rfl) (fun _ _ _ h => h) (Or.inl ⟨?_, ?_⟩) hHeld ?_; rotate_left; (focus (go_simp; done)); (focus (intro w hSw; (try dsimp only at hSw); go_simp; try (with_reducible rfl))))
            try simp only [Act.put, List.setIfInBounds_toArray, List.set_cons_zero, List.set_cons_succ]
            first | (refine take_at (i := 14) rfl (d := some 100) rfl (by kernel_rfl) (by kernel_rfl) (by kernel_rfl) (fun _ _ _ h => h) (Or.inr ⟨?_, rfl⟩) hHeld ?_; (focus (first | (go_simp; done) | (go_simp; unfold undef; simp; done)))) | (refine take_at (i := 14) (v := ?_) rfl (d := some 100) rfl (by kernel_rfl) (by kernel_rfl) (by kernel_rfl) (fun _ _ _ h => h) (Or.inl ⟨?_, ?_⟩) hHeld ?_; rotate_left; (focus (go_simp; done)); (focus (intro w hSw; (try dsimp only at hSw); go_simp; try (with_reducible rfl))))
            try simp only [Act.put, List.setIfInBounds_toArray, List.set_cons_zero, List.set_cons_succ]
            first | (refine take_at (i := 15) rfl (d := some 101) rfl (by kernel_rfl) (by kernel_rfl) (by kernel_rfl) (fun _ _ _ h => h) (Or.inr ⟨?_, rfl⟩) hHeld ?_; (focus (first | (go_simp; done) | (go_simp; unfold undef; simp; done)))) | (refine take_at (i := 15) (v := ?_) rfl (d := some 101) rfl (by kernel_rfl) (by kernel_rfl) (by kernel_rfl) (fun _ _ _ h => h) (Or.inl ⟨?_, ?_⟩) hHeld ?_; rotate_left; (focus (go_simp; done)); (focus (intro w hSw; (try dsimp only at hSw); go_simp; try (with_reducible rfl))))
            try simp only [Act.put, List.setIfInBounds_toArray, List.set_cons_zero, List.set_cons_succ]
            first | (refine take_at (i := 16) rfl (d := some 102) rfl (by kernel_rfl) (by kernel_rfl) (by kernel_rfl) (fun _ _ _ h => h) (Or.inr ⟨?_, rfl⟩) hHeld ?_; (focus (first | (go_simp; done) | (go_simp; unfold undef; simp; done)))) | (refine take_at (i := 16) (v := ?_) rfl (d := some 102) rfl (by kernel_rfl) (by kernel_rfl) (by kernel_rfl) (fun _ _ _ h => h) (Or.inl ⟨?_, ?_⟩) hHeld ?_; rotate_left; (focus (go_simp; done)); (focus (intro w hSw; (try dsimp only at hSw); go_simp; try (with_reducible rfl))))
            try simp only [Act.put, List.setIfInBounds_toArray, List.set_cons_zero, List.set_cons_succ]
            first | (refine take_at (i := 17) rfl (d := some 103) rfl (by kernel_rfl) (by kernel_rfl) (by kernel_rfl) (fun _ _ _ h => h) (Or.inr ⟨?_, rfl⟩) hHeld ?_; (focus (first | (go_simp; done) | (go_simp; unfold undef; simp; done)))) | (refine take_at (i := 17) (v := ?_) rfl (d := some 103) rfl (by kernel_rfl) (by kernel_rfl) (by kernel_rfl) (fun _ _ _ h => h) (Or.inl ⟨?_, ?_⟩) hHeld ?_; rotate_left; (focus (go_simp; done)); (focus (intro w hSw; (try dsimp only at hSw); go_simp; try (with_reducible rfl))))
            try simp only [Act.put, List.setIfInBounds_toArray, List.set_cons_zero, List.set_cons_succ]
            first | (refine take_at (i := 18) rfl (d := some 104) rfl (by kernel_rfl) (by kernel_rfl) (by kernel_rfl) (fun _ _ _ h => h) (Or.inr ⟨?_, rfl⟩) hHeld ?_; (focus (first | (go_simp; done) | (go_simp; unfold undef; simp; done)))) | (refine take_at (i := 18) (v := ?_) rfl (d := some 104) rfl (by kernel_rfl) (by kernel_rfl) (by kernel_rfl) (fun _ _ _ h => h) (Or.inl ⟨?_, ?_⟩) hHeld ?_; rotate_left; (focus (go_simp; done)); (focus (intro w hSw; (try dsimp only at hSw); go_simp; try (with_reducible rfl))))
            try simp only [Act.put, List.setIfInBounds_toArray, List.set_cons_zero, List.set_cons_succ]
            first | (refine take_at (i := 19) rfl (d := some 105) rfl (by kernel_rfl) (by kernel_rfl) (by kernel_rfl) (fun _ _ _ h => h) (Or.inr ⟨?_, rfl⟩) hHeld ?_; (focus (first | (go_simp; done) | (go_simp; unfold undef; simp; done)))) | (refine take_at (i := 19) (v := ?_) rfl (d := some 105) rfl (by kernel_rfl) (by kernel_rfl) (by kernel_rfl) (fun _ _ _ h => h) (Or.inl ⟨?_, ?_⟩) hHeld ?_; rotate_left; (focus (go_simp; done)); (focus (intro w hSw; (try dsimp only at hSw); go_simp; try (with_reducible rfl))))
            try simp only [Act.put, List.setIfInBounds_toArray, List.set_cons_zero, List.set_cons_succ]
            first | (refine take_at (i := 20) rfl (d := some 106) rfl (by kernel_rfl) (by kernel_rfl) (by kernel_rfl) (fun _ _ _ h => h) (Or.inr ⟨?_, rfl⟩) hHeld ?_; (focus (first | (go_simp; done) | (go_simp; unfold undef; simp; done)))) | (refine take_at (i := 20) (v := ?_) rfl (d := some 106) rfl (by kernel_rfl) (by kernel_rfl) (by kernel_rfl) (fun _ _ _ h => h) (Or.inl ⟨?_, ?_⟩) hHeld ?_; rotate_left; (focus (go_simp; done)); (focus (intro w hSw; (try dsimp only at hSw); go_simp; try (with_reducible rfl))))
            try simp only [Act.put, List.setIfInBounds_toArray, List.set_cons_zero, List.set_cons_succ]
            first | (refine take_at (i := 21) rfl (d := some 107) rfl (by kernel_rfl) (by kernel_rfl) (by kernel_rfl) (fun _ _ _ h => h) (Or.inr ⟨?_, rfl⟩) hHeld ?_; (focus (first | (go_simp; done) | (go_simp; unfold undef; simp; done)))) | (refine take_at (i := 21) (v := ?_) rfl (d := some 107) rfl (by kernel_rfl) (by kernel_rfl) (by kernel_rfl) (fun _ _ _ h => h) (Or.inl ⟨?_, ?_⟩) hHeld ?_; rotate_left; (focus (go_simp; done)); (focus (intro w hSw; (try dsimp only at hSw); go_simp; try (with_reducible rfl))))
            try simp only [Act.put, List.setIfInBounds_toArray, List.set_cons_zero, List.set_cons_succ]
            first | (refine take_at (i := 22) rfl (d := some 108) rfl (by kernel_rfl) (by kernel_rfl) (by kernel_rfl) (fun _ _ _ h => h) (Or.inr ⟨?_, rfl⟩) hHeld ?_; (focus (first | (go_simp; done) | (go_simp; unfold undef; simp; done)))) | (refine take_at (i := 22) (v := ?_) rfl (d := some 108) rfl (by kernel_rfl) (by kernel_rfl) (by kernel_rfl) (fun _ _ _ h => h) (Or.inl ⟨?_, ?_⟩) hHeld ?_; rotate_left; (focus (go_simp; done)); (focus (intro w hSw; (try dsimp only at hSw); go_simp; try (with_reducible rfl))))
            try simp only [Act.put, List.setIfInBounds_toArray, List.set_cons_zero, List.set_cons_succ]
            first | (refine take_at (i := 23) rfl (d := some 109) rfl (by kernel_rfl) (by kernel_rfl) (by kernel_rfl) (fun _ _ _ h => h) (Or.inr ⟨?_, rfl⟩) hHeld ?_; (focus (first | (go_simp; done) | (go_simp; unfold undef; simp; done)))) | (refine take_at (i := 23) (v := ?_) rfl (d := some 109) rfl (by kernel_rfl) (by kernel_rfl) (by kernel_rfl) (fun _ _ _ h => h) (Or.inl ⟨?_, ?_⟩) hHeld ?_; rotate_left; (focus (go_simp; done)); (focus (intro w hSw; (try dsimp only at hSw); go_simp; try (with_reducible rfl))))
            try simp only [Act.put, List.setIfInBounds_toArray, List.set_cons_zero, List.set_cons_succ]
            first | (refine take_at (i := 24) rfl (d := some 110) rfl (by kernel_rfl) (by kernel_rfl) (by kernel_rfl) (fun _ _ _ h => h) (Or.inr ⟨?_, rfl⟩) hHeld ?_; (focus (first | (go_simp; done) | (go_simp; unfold undef; simp; done)))) | (refine take_at (i := 24) (v := ?_) rfl (d := some 110) rfl (by kernel_rfl) (by kernel_rfl) (by kernel_rfl) (fun _ _ _ h => h) (Or.inl ⟨?_, ?_⟩) hHeld ?_; rotate_left; (focus (go_simp; done)); (focus (intro w hSw; (try dsimp only at hSw); go_simp; try (with_reducible rfl))))
            try simp only [Act.put, List.setIfInBounds_toArray, List.set_cons_zero, List.set_cons_succ]
            first | (refine take_at (i := 25) rfl (d := some 111) rfl (by kernel_rfl) (by kernel_rfl) (by kernel_rfl) (fun _ _ _ h => h) (Or.inr ⟨?_, rfl⟩) hHeld ?_; (focus (first | (go_simp; done) | (go_simp; unfold undef; simp; done)))) | (refine take_at (i := 25) (v := ?_) rfl (d := some 111) rfl (by kernel_rfl) (by kernel_rfl) (by kernel_rfl) (fun _ _ _ h => h) (Or.inl ⟨?_, ?_⟩) hHeld ?_; rotate_left; (focus (go_simp; done)); (focus (intro w hSw; (try dsimp only at hSw); go_simp; try (with_reducible rfl))))
            try simp only [Act.put, List.setIfInBounds_toArray, List.set_cons_zero, List.set_cons_succ]
            first | (refine take_at (i := 26) rfl (d := some 112) rfl (by kernel_rfl) (by kernel_rfl) (by kernel_rfl) (fun _ _ _ h => h) (Or.inr ⟨?_, rfl⟩) hHeld ?_; (focus (first | (go_simp; done) | (go_simp; unfold undef; simp; done)))) | (refine take_at (i := 26) (v := ?_) rfl (d := some 112) rfl (by kernel_rfl) (by kernel_rfl) (by kernel_rfl) (fun _ _ _ h => h) (Or.inl ⟨?_, ?_⟩) hHeld ?_; rotate_left; (focus (go_simp; done)); (focus (intro w hSw; (try dsimp only at hSw); go_simp; try (with_reducible rfl))))
            try simp only [Act.put, List.setIfInBounds_toArray, List.set_cons_zero, List.set_cons_succ]
            first | (refine take_at (i := 27) rfl (d := some 113) rfl (by kernel_rfl) (by kernel_rfl) (by kernel_rfl) (fun _ _ _ h => h) (Or.inr ⟨?_, rfl⟩) hHeld ?_; (focus (first | (go_simp; done) | (go_simp; unfold undef; simp; done)))) | (refine take_at (i := 27) (v := ?_) rfl (d := some 113) rfl (by kernel_rfl) (by kernel_rfl) (by kernel_rfl) (fun _ _ _ h => h) (Or.inl ⟨?_, ?_⟩) hHeld ?_; rotate_left; (focus (go_simp; done)); (focus (intro w hSw; (try dsimp only at hSw); go_simp; try (with_reducible rfl))))
            try simp only [Act.put, List.setIfInBounds_toArray, List.set_cons_zero, List.set_cons_succ]
            first | (refine take_at (i := 28) rfl (d := some 114) rfl (by kernel_rfl) (by kernel_rfl) (by kernel_rfl) (fun _ _ _ h => h) (Or.inr ⟨?_, rfl⟩) hHeld ?_; (focus (first | (go_simp; done) | (go_simp; unfold undef; simp; done)))) | (refine take_at (i := 28) (v := ?_) rfl (d := some 114) rfl (by kernel_rfl) (by kernel_rfl) (by kernel_rfl) (fun _ _ _ h => h) (Or.inl ⟨?_, ?_⟩) hHeld ?_; rotate_left; (focus (go_simp; done)); (focus (intro w hSw; (try dsimp only at hSw); go_simp; try (with_reducible rfl))))
            try simp only [Act.put, List.setIfInBounds_toArray, List.set_cons_zero, List.set_cons_succ]
            first | (refine take_at (i := 29) rfl (d := some 115) rfl (by kernel_rfl) (by kernel_rfl) (by kernel_rfl) (fun _ _ _ h => h) (Or.inr ⟨?_, rfl⟩) hHeld ?_; (focus (first | (go_simp; done) | (go_simp; unfold undef; simp; done)))) | (refine take_at (i := 29) (v := ?_) rfl (d := some 115) rfl (by kernel_rfl) (by kernel_rfl) (by kernel_rfl) (fun _ _ _ h => h) (Or.inl ⟨?_, ?_⟩) hHeld ?_; rotate_left; (focus (go_simp; done)); (focus (intro w hSw; (try dsimp only at hSw); go_simp; try (with_reducible rfl))))
            try simp only [Act.put, List.setIfInBounds_toArray, List.set_cons_zero, List.set_cons_succ]
            first | (refine take_at (i := 30) rfl (d := some 116) rfl (by kernel_rfl) (by kernel_rfl) (by kernel_rfl) (fun _ _ _ h => h) (Or.inr ⟨?_, rfl⟩) hHeld ?_; (focus (first | (go_simp; done) | (go_simp; unfold undef; simp; done)))) | (refine take_at (i := 30) (v := ?_) rfl (d := some 116) rfl (by kernel_rfl) (by kernel_rfl) (by kernel_rfl) (fun _ _ _ h => h) (Or.inl ⟨?_, ?_⟩) hHeld ?_; rotate_left; (focus (go_simp; done)); (focus (intro w hSw; (try dsimp only at hSw); go_simp; try (with_reducible rfl))))
            try simp only [Act.put, List.setIfInBounds_toArray, List.set_cons_zero, List.set_cons_succ]
            refine wpAnyH_done (by kernel_rfl) ?_ _
            have hx9 := HAK.out
            have hx8 := HKB.out
            clear c0 c1 c2 c3 c4 c5 c6 m0 m1 m2 m3 m4 m5 m6 o0 o1 o2 o3 o4 o5 o6 hHeld
            go_wp2
            exact ⟨⟨k + 1, v, l, sq, _, x, by omega, by go_num, HT7.out, HP.out, hx8.1, hx8.2.1, by have := hx8.2.2; omega⟩, by simp [intOf]; omega⟩
      · have q2 : decide ((k : Int) < 60) = false := decide_eq_false (by omega)
        go_wp2
        go_ret
        exact ⟨rfl, HT.out.below⟩
    · have q1 : decide ((k : Int) < (qs.length : Int)) = false := decide_eq_false (by omega)
      go_wp2
      go_ret
      exact ⟨rfl, HT.out.below⟩
end Go.Proofs.Ythlllcmffgdcmab.Heap

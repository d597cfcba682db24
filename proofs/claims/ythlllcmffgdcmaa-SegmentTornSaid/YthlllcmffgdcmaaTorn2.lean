import Derived.Test.YthlllcmffgdcmaaTorn1
namespace Go.Proofs.Ythlllcmffgdcmaa.Torn
open Go.RowKit Go.Proofs.Ythlllcmffgdcmaa.QSegmentOpens Go.Proofs.YthlllcmffgdcmaaW.PrintWords Go.Proofs.YthlllcmffgdcmaaW.PrintLast Go.Proofs.YthlllcmffgdcmaaW.PrintMore Go.Proofs.Ythlllcmffgdcmaa.LebPlain Go.Proofs.Ythlllcmffgdcmaa.LebWords Go.Proofs.Ythlllcmffgdcmaa.RecPlain Go.Proofs.Ythlllcmffgdcmaa.CrcPlain Go.Proofs.Ythlllcmffgdcmaa.SegPlain Go.Proofs.Ythlllcmffgdcmaa.SegLinkQSegmentOpens Go.Proofs.Ythlllcmffgdcmaa.Pure Go.Proofs.Ythlllcmffgdcmaa.Spoilt Go.Proofs.Ythlllcmffgdcmaa.Scan
set_option linter.unusedVariables false
set_option linter.unusedSimpArgs false

/-- Where the first segments begin, and where the last of them ends. -/
def endsTo (xs : List ByteArray) (i : Nat) : List Int := (List.range (i + 1)).map fun j => (endAt xs j : Int)
theorem endsTo_len (xs : List ByteArray) (i : Nat) : (endsTo xs i).length = i + 1 := by simp [endsTo]
theorem endsTo_succ (xs : List ByteArray) (i : Nat) : endsTo xs (i + 1) = endsTo xs i ++ [(endAt xs (i + 1) : Int)] := by
  unfold endsTo; rw [List.range_succ, List.map_append]; rfl
theorem endsTo_at (xs : List ByteArray) (k i : Nat) (h : i ≤ k) : rd (endsTo xs k) (i : Int) = (endAt xs i : Int) := by
  have h1 : i < (endsTo xs k).length := by rw [endsTo_len]; omega
  unfold rd
  rw [Int.toNat_natCast, List.getD_eq_getElem?_getD, List.getElem?_eq_getElem h1]
  simp [endsTo]

/-- What stands in memory while the row is written. -/
def Rows (B : Nat) (w : World) (A : Option Addr) (cap g2 g6 : Nat) (xs : List ByteArray) (i : Nat) (W : World) : Prop :=
  Below B w W ∧ W.heap[g2]? = some (.cells #[.slice A xs.length cap] 62 (0, 0)) ∧ ∃ v, W.heap[g6]? = some (.cells #[v] 65 (0, 0)) ∧ W.ownsRow B 3 1 v (endsTo xs i).length (nums .i64 (endsTo xs i))

theorem and_65535 (x : Int) : 0 ≤ Go.bits .and .i64 x 65535 ∧ Go.bits .and .i64 x 65535 ≤ 65535 := by
  have h : (BitVec.ofInt 64 x &&& BitVec.ofInt 64 65535).toNat ≤ 65535 := by
    rw [BitVec.toNat_and]; exact Nat.and_le_right
  have e : Go.bits .and .i64 x 65535 = IntKind.i64.wrap ((BitVec.ofInt 64 x &&& BitVec.ofInt 64 65535).toNat : Int) := rfl
  rw [e, IntKind.wrap_i64]
  omega

theorem rows0 (w w1 : World) (A : Option Addr) (cap : Nat) (xs : List ByteArray) (h : Below (w.alloc (Obj.cells #[Value.slice A xs.length cap] 62)).heap.size (w.alloc (Obj.cells #[Value.slice A xs.length cap] 62)) w1) :
    Rows w.heap.size w A cap w.heap.size (w1.heap.size + 1) xs 0 ((w1.alloc (Obj.cells #[Value.int IntKind.i64 0] 3)).alloc (Obj.cells #[Value.slice (some { block := w1.heap.size, off := 0 }) 1 1] 65)) := by
  have hz : w.heap.size ≤ w1.heap.size := Nat.le_trans (by simp) h.size
  have hB : Below w.heap.size w w1 := (below_alloc (Below.refl w.heap.size w) _).trans (h.mono (by simp))
  refine ⟨below_alloc (below_alloc hB _) _, blk_alloc (blk_alloc (blk_below (blk_new w _) h) _) _, Value.slice (some { block := w1.heap.size, off := 0 }) 1 1, ?_, ?_⟩
  · simpa using blk_new (w1.alloc (Obj.cells #[Value.int IntKind.i64 0] 3)) (Obj.cells #[Value.slice (some { block := w1.heap.size, off := 0 }) 1 1] 65)
  · have := own_lit w1 w.heap.size 3 .i64 (endsTo xs 0) hz (by simp [endsTo])
    exact own_alloc this _

/-- What the scan has seen: how many, all of them fine. -/
def Seen (n : Nat) (W0 : World) (i : Nat) (W : World) : Prop := Below n W0 W ∧ W.heap[n]? = some (.cells #[.int .i64 (i : Int)] 3 (0, 0)) ∧ W.heap[n + 1]? = some (.cells #[.bool true] 4 (0, 0))
/-- The world ahead of the scan. -/
def seenW (wc : World) : World := (wc.alloc (Obj.cells #[Value.int IntKind.i64 0] 3)).alloc (Obj.cells #[Value.bool true] 4)
theorem seenW_below (wc : World) : Below wc.heap.size wc (seenW wc) := below_alloc (below_alloc (Below.refl _ _) _) _
theorem seenW_size (wc : World) : (seenW wc).heap.size = wc.heap.size + 2 := by simp [seenW]
theorem seen0 (wc : World) : Seen wc.heap.size (seenW wc) 0 (seenW wc) :=
  ⟨Below.refl _ _, blk_alloc (blk_new wc _) _, by simpa [seenW] using blk_new (wc.alloc (Obj.cells #[Value.int IntKind.i64 0] 3)) (Obj.cells #[Value.bool true] 4)⟩

theorem scan_torn (w wc : World) (xs : List ByteArray) (A A1 : Option Addr) (cap c1 g2 g6 k j c : Nat) (es : List Int) (hB : Below w.heap.size w wc)
    (h2 : wc.heap[g2]? = some (.cells #[.slice A xs.length cap] 62 (0, 0))) (h6 : wc.heap[g6]? = some (.cells #[.slice A1 es.length c1] 65 (0, 0)))
    (hr : ReadsInt wc .i64 A1 es.length es) (hel : es.length = k + 1) (hea : ∀ i : Nat, i ≤ k → rd es (i : Int) = (endAt xs i : Int)) (hx : ReadsOf Value.string ByteArray.empty w A xs.length xs)
    (hk8 : k ≤ 8) (hk : k ≤ xs.length) (hj : j ≤ k) (hjc : endAt xs j ≤ c) (hck : c ≤ endAt xs k) (hend : j = k ∨ c < endAt xs (j + 1)) :
    Calls Try.prog 35 #[.string ((rowTo xs k).extract 0 c), .int .u64 0, .func (.func 37) #[] #[.pointer (some ⟨wc.heap.size + 1, 0, none⟩), .pointer (some ⟨wc.heap.size, 0, none⟩), .pointer (some ⟨g2, 0, none⟩), .pointer (some ⟨g6, 0, none⟩)]] (seenW wc)
      fun e W' => e = .returned (.int .i64 (endAt xs j : Int)) ∧ Seen wc.heap.size (seenW wc) j W' := by
  have hz : ((rowTo xs k).extract 0 c).size = c := by
    rw [ByteArray.size_extract]; unfold endAt at hck; omega
  have hek := endAt_le xs k hk8
  refine scan_calls _ (by omega) 0 j (by omega) (endAt xs) (bodyAt xs) rfl (fun i hi => ?_) (fun i hi => ?_) 37 _ (fun _ _ => by kernel_rfl) (Seen wc.heap.size (seenW wc)) _ (fun i W W' h hb => ?_) (fun i hi W h => ?_) (Or.inl ⟨Or.inl (cut_end xs k c j hj hk8 hjc hck hend), fun W h => h⟩) _ (seen0 wc)
  · exact cut_whole xs k c i (by omega) hk8 (Nat.le_trans (endAt_mono xs (show i + 1 ≤ j by omega)) hjc) hck
  · have h1 := segAt_size xs i (by omega)
    have h2 := endAt_succ xs i
    have h3 := endAt_mono xs (show i + 1 ≤ j by omega)
    rw [hz]
    omega
  · obtain ⟨a1, a2, a3⟩ := h
    have := a1.size
    rw [seenW_size] at this
    exact ⟨below_then a1 (by omega) hb, blk_below a2 hb, blk_below a3 hb⟩
  · obtain ⟨a1, a2, a3⟩ := h
    have hS := a1.size
    rw [seenW_size] at hS
    have hb : Below wc.heap.size wc W := (seenW_below wc).trans a1
    refine (see_calls xs es (wc.heap.size + 1) wc.heap.size g2 g6 cap c1 i A A1 _ _ W a3 a2 (blk_below h2 hb) (blk_below h6 hb) (hx.below (below_then hB hB.size hb)) (ReadsInt.below hr hb) (by omega) (by omega) (by omega) rfl (by have := hea (i + 1) (by omega); rw [Int.natCast_add] at this; exact this.symm)).mono ?_
    rintro e W' ⟨rfl, rfl⟩
    refine ⟨rfl, (a1.setCell (by show wc.heap.size ≤ wc.heap.size + 1; omega) _).setCell (Nat.le_refl _) _, ?_, ?_⟩
    · have h5 : (W.setCell ⟨wc.heap.size + 1, 0, none⟩ (.bool true)).heap[wc.heap.size]? = some (.cells #[.int .i64 (i : Int)] 3 (0, 0)) := (Below.heap_setCell W ⟨wc.heap.size + 1, 0, none⟩ _ _ (by show wc.heap.size ≠ wc.heap.size + 1; omega)).trans a2
      have := blk_set h5 0 (.int .i64 ((i : Int) + 1))
      simpa using this
    · have h5 := blk_set a3 0 (.bool true)
      have h6 : (W.setCell ⟨wc.heap.size + 1, 0, none⟩ (.bool true)).heap[wc.heap.size + 1]? = some (.cells #[.bool true] 4 (0, 0)) := by simpa using h5
      exact (Below.heap_setCell _ ⟨wc.heap.size, 0, none⟩ _ _ (by show wc.heap.size + 1 ≠ wc.heap.size; omega)).trans h6

set_option maxHeartbeats 4000000 in
set_option maxRecDepth 100000 in
theorem torn_law (xs : List ByteArray) (A : Option Addr) (cap : Nat) (cut : Int) (w : World) (hx : ReadsOf Value.string ByteArray.empty w A xs.length xs) :
    Calls Try.prog 11 #[.slice A xs.length cap, .int .i64 cut] w fun e w' => e = .returned (.bool true) ∧ Below w.heap.size w w' := by
  have HX := Aside0.mk hx
  clear hx
  go_enter Try.func11, Try.ntmps11
  go_upto_block 0 with (first
    | (go_at_call 29; (with_reducible refine (awake_calls _).mono ?_); rintro e w1 ⟨rfl, hb⟩; have B1 := Aside0.mk hb; clear hb))
  have hA := below_alloc (Below.refl w.heap.size w) (Obj.cells #[Value.slice A xs.length cap] 62)
  have R0 := Aside0.mk (rows0 w w1 A cap xs B1.out)
  have HZ := Aside0.mk (show w.heap.size < w1.heap.size from Nat.lt_of_lt_of_le (by simp) B1.out.size)
  generalize hg2 : w.heap.size = g2 at R0 HZ ⊢
  have HG := Aside0.mk hg2
  clear hg2
  clear hA
  generalize w1.heap.size = g1 at R0 HZ ⊢
  generalize (w1.alloc (Obj.cells #[Value.int IntKind.i64 0] 3)).alloc (Obj.cells #[Value.slice (some { block := g1, off := 0 }) 1 1] 65) = w2 at R0 ⊢
  go_cut [5, 7] (fun v5 v7 wx => ∃ k : Nat, k ≤ 8 ∧ k ≤ xs.length ∧ v5 = .string (rowTo xs k) ∧ Rows g2 w A cap g2 (g1 + 1) xs k wx)
  case first =>
    go_wp2
    go_loopw [5, 7] (fun v5 v7 wr => ∃ k : Nat, k ≤ 8 ∧ k ≤ xs.length ∧ v7 = .int .i64 k ∧ v5 = .string (rowTo xs k) ∧ Rows g2 w A cap g2 (g1 + 1) xs k wr) (fun _ x _ => 8 - (intOf x).toNat)
    case atStart => exact ⟨0, by omega, by omega, rfl, rfl, R0.out⟩
    case round =>
      obtain ⟨k, hk8, hk, rfl, rfl, hR⟩ := hrel
      obtain ⟨hB, h2, v, h6, hO⟩ := hR
      have c2 : wr.cell? ⟨g2, 0, none⟩ = some (.slice A xs.length cap) := (blk_cell h2 0).trans rfl
      have c6 : wr.cell? ⟨g1 + 1, 0, none⟩ = some v := (blk_cell h6 0).trans rfl
      have f6 := blk_frozen h6 0
      have HB := Aside0.mk hB
      have H2 := Aside0.mk h2
      have H6 := Aside0.mk h6
      have HO := Aside0.mk hO
      clear hB h2 h6 hO
      by_cases hlt : k < xs.length
      · have q1 : decide ((k : Int) < (xs.length : Int)) = true := decide_eq_true (by omega)
        by_cases h8 : k < 8
        · have q2 : decide ((k : Int) < 8) = true := decide_eq_true (by omega)
          obtain ⟨ad0, e0, k0⟩ := (HX.out.below (HG.out ▸ HB.out)).at_ (k : Int) (by omega) (by omega)
          subst e0
          rw [Int.toNat_natCast] at k0
          have HBody := Aside0.mk (show cutS (rdOf ByteArray.empty xs (k : Int)) 60 = bodyAt xs k from rfl)
          generalize rdOf ByteArray.empty xs (k : Int) = s at k0 HBody
          have HS := Aside0.mk (show segAt xs k = strB (frameL k (bl (bodyAt xs k))) from rfl)
          have HSz := segAt_size xs k (by omega)
          have HE := Aside0.mk (endAt_succ xs k)
          have hEl := endAt_le xs k (by omega)
          have HR := Aside0.mk (show rowTo xs (k + 1) = rowTo xs k ++ segAt xs k from rfl)
          have hrz : (rowTo xs k).size = endAt xs k := rfl
          have HES := Aside0.mk (endsTo_succ xs k)
          have HEL := Aside0.mk (endsTo_len xs k)
          generalize segAt xs k = sg at HS HSz HE HR
          generalize rowTo xs k = row at HR hrz ⊢
          generalize endAt xs k = ek at HE hEl hrz
          generalize endAt xs (k + 1) = ek1 at HE HES
          generalize endsTo xs k = es at HO HES HEL
          have hno : ¬ 9223372036854775807 < row.size + sg.size := by omega
          have hrs : (row ++ sg).size = row.size + sg.size := ByteArray.size_append
          go_wp2_with (first
            | (go_at_call 25; (with_reducible refine (cut_calls _ 60 60 rfl _).mono ?_); rintro e w3 ⟨rfl, rfl⟩; rw [HBody.out])
            | (go_at_call 30; (with_reducible refine (frame_calls k (by omega) (bodyAt xs k) sg (Nat.le_trans (bodyAt_size xs k) (by decide)) HS.out wr).mono ?_); rintro e w3 ⟨rfl, hb⟩; have B3 := Aside0.mk (below_then HB.out (by have := HB.out.size; have := HG.out; omega) hb); have h63 := blk_below H6.out hb; have D6 := (blk_cell h63 0).trans rfl; have F6 := blk_frozen h63 0; have H63 := Aside0.mk h63; have H23 := Aside0.mk (blk_below H2.out hb); have HO3 := Aside0.mk (pw_own_below HO.out hb); clear hb h63 c2 c6 f6)
            | (at_builtin; refine print_append_num (w0 := w) g2 rfl _ _ 65 3 .i64 8 rfl Try.underlying65 info3 (by decide) v es _ rfl rfl HO3.out B3.out (by have := B3.out.size; have := HG.out; omega) (by have := HEL.out; omega) ?_; intro v1 w4 hown hbel hgr hat; have hne6 := own_ne HO3.out H63.out (by decide); have hne2 := own_ne HO3.out H23.out (by decide); have H64 := Aside0.mk (blk_grown H63.out hgr hne6); have H24 := Aside0.mk (blk_grown H23.out hgr hne2); have HO4 := Aside0.mk hown; have B4 := Aside0.mk hbel; clear hat hne6 hne2 hbel hgr; obtain ⟨A4, c4, rfl⟩ := own_slice hown; clear hown; have D64 := (blk_cell H64.out 0).trans rfl; have F64 := blk_frozen H64.out 0))
          have HO5 := Aside0.mk (show w4.ownsRow g2 3 1 _ (endsTo xs (k + 1)).length (nums .i64 (endsTo xs (k + 1))) by rw [HES.out, HE.out, Int.natCast_add]; exact HO4.out)
          have HN := Aside0.mk (show g2 ≠ g1 + 1 by have := HZ.out; omega)
          exact ⟨⟨k + 1, by omega, by omega, by go_num, by rw [HR.out], B4.out.setCell (by have := HZ.out; show g2 ≤ g1 + 1; omega) _, (Below.heap_setCell w4 ⟨g1 + 1, 0, none⟩ _ g2 HN.out).trans H24.out, _, by simpa using blk_set H64.out 0 _, own_setCell HO5.out (own_ne HO5.out H64.out (by decide)) _⟩, by simp [intOf]; omega⟩
        · have q2 : decide ((k : Int) < 8) = false := decide_eq_false (by omega)
          go_wp2
          go_meet
          exact ⟨k, hk8, hk, rfl, HB.out, H2.out, v, H6.out, HO.out⟩
      · have q1 : decide ((k : Int) < (xs.length : Int)) = false := decide_eq_false (by omega)
        go_wp2
        go_meet
        exact ⟨k, hk8, hk, rfl, HB.out, H2.out, v, H6.out, HO.out⟩
  case rest =>
    obtain ⟨k, hk8, hk, rfl, hB, h2, v, h6, hO⟩ := hcut
    obtain ⟨A1, c1, rfl, hr⟩ := own_reads hO
    have c2 : wc.cell? ⟨g2, 0, none⟩ = some (.slice A xs.length cap) := (blk_cell h2 0).trans rfl
    have c6 : wc.cell? ⟨g1 + 1, 0, none⟩ = some (.slice A1 (endsTo xs k).length c1) := (blk_cell h6 0).trans rfl
    have HB := Aside0.mk hB
    have H2 := Aside0.mk h2
    have H6 := Aside0.mk h6
    have HR := Aside0.mk hr
    clear hB h2 h6 hO hr
    have hz : (rowTo xs k).size = endAt xs k := rfl
    have hek := endAt_le xs k hk8
    obtain ⟨q0, q1⟩ := and_65535 cut
    obtain ⟨c, hc, hck⟩ : ∃ c : Nat, (Go.bits .and .i64 cut 65535).tmod ((endAt xs k : Int) + 1) = (c : Int) ∧ c ≤ endAt xs k := by
      generalize Go.bits .and .i64 cut 65535 = x at q0 q1
      obtain ⟨x, rfl⟩ := Int.eq_ofNat_of_zero_le q0
      refine ⟨x % (endAt xs k + 1), ?_, by have := Nat.mod_lt x (show 0 < endAt xs k + 1 by omega); omega⟩
      rw [Int.tmod_eq_emod_of_nonneg (by omega), Int.natCast_emod]; rfl
    have hc' : (Go.bits .and .i64 cut 65535) % ((endAt xs k : Int) + 1) = (c : Int) := by rw [← hc, Int.tmod_eq_emod_of_nonneg q0]
    go_upto_block 2 with (fail)
    have HC := Aside0.mk hck
    have hel := endsTo_len xs k
    have HEA := Aside0.mk (fun i => endsTo_at xs k i)
    generalize endsTo xs k = es at HR HEA hel H6 c6 ⊢
    rw [hel] at c6
    clear hc hc' q0 q1
    go_cut [10] (fun v10 wx => wx = wc ∧ ∃ j : Nat, j ≤ k ∧ v10 = .int .i64 j ∧ endAt xs j ≤ c ∧ (j = k ∨ c < endAt xs (j + 1)))
    case first =>
      go_wp2
      go_loopw [10] (fun v10 wr => wr = wc ∧ ∃ j : Nat, j ≤ k ∧ v10 = .int .i64 j ∧ endAt xs j ≤ c) (fun x _ => 8 - (intOf x).toNat)
      case atStart => exact ⟨by first | rfl | trivial, 0, Nat.zero_le _, rfl, Nat.zero_le _⟩
      case round =>
        obtain ⟨rfl, j, hj, rfl, hjc⟩ := hrel
        by_cases hjk : j < k
        · have q1 : decide ((j : Int) + 1 < (k : Int) + 1) = true := decide_eq_true (by omega)
          obtain ⟨ad1, e1, k1⟩ := HR.out.at_ ((j : Int) + 1) (by omega) (by omega)
          subst e1
          have hv := HEA.out (j + 1) (by omega)
          rw [Int.natCast_add] at hv
          rw [show rd es ((j : Int) + 1) = (endAt xs (j + 1) : Int) from hv, show ((j : Int) + 1).toNat = j + 1 by omega] at k1
          have k1' : wr.cell? ⟨ad1.block, ad1.off + (j + 1), none⟩ = some (.int .i64 (endAt xs (j + 1) : Int)) := k1
          have hE1 := endAt_le xs (j + 1) (by omega)
          clear hv
          by_cases hle : endAt xs (j + 1) ≤ c
          · have q2 : decide ((endAt xs (j + 1) : Int) ≤ (c : Int)) = true := decide_eq_true (by omega)
            go_wp2
            exact ⟨⟨by first | rfl | trivial, j + 1, by omega, by go_num, hle⟩, by simp [intOf]; omega⟩
          · have q2 : decide ((endAt xs (j + 1) : Int) ≤ (c : Int)) = false := decide_eq_false (by omega)
            go_wp2
            go_meet
            exact ⟨rfl, j, hj, rfl, hjc, Or.inr (by omega)⟩
        · have q1 : decide ((j : Int) + 1 < (k : Int) + 1) = false := decide_eq_false (by omega)
          go_wp2
          go_meet
          exact ⟨rfl, j, hj, rfl, hjc, Or.inl (by omega)⟩
    case rest =>
      obtain ⟨rfl, j, hj, rfl, hjc, hend⟩ := hcut
      have HE := Aside0.mk hend
      clear hend
      have HSC := Aside0.mk (scan_torn w wc xs A A1 cap c1 g2 (g1 + 1) k j c es (HG.out ▸ HB.out) H2.out H6.out HR.out hel HEA.out HX.out hk8 hk hj hjc HC.out HE.out)
      obtain ⟨ad1, e1, k1⟩ := HR.out.at_ (j : Int) (by omega) (by omega)
      subst e1
      rw [HEA.out j hj, Int.toNat_natCast] at k1
      have HK := Aside0.mk k1
      clear k1
      go_wp2_with (go_at_call 35; refine HSC.out.mono ?_; rintro e w5 ⟨rfl, hS⟩; have B5 := Aside0.mk ((seenW_below wc).trans hS.1); have d0 := (blk_cell hS.2.1 0).trans rfl; have d1 := (blk_cell hS.2.2 0).trans rfl; have h65 := blk_below H6.out B5.out; have d6 := (blk_cell h65 0).trans rfl; rw [hel] at d6; have dk := pw_cell_below B5.out HK.out; clear hS h65)
      go_ret
      exact ⟨rfl, below_then (HG.out ▸ HB.out) HB.out.size B5.out⟩
end Go.Proofs.Ythlllcmffgdcmaa.Torn

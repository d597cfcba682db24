/- Texts of this claim, joined: Book10, Book11, TornLog, Torn3. -/
import Derived.Test.YthlllcmffgdcmaaM4
import Derived.Test.YthlllcmffgdcmaaRefPut0
import Derived.Test.YthlllcmffgdcmaaM3
import Derived.Test.YthlllcmffgdcmaaM1
import Derived.Deep.DeepCutAuto
import Derived.Deep.CutBlock
import Derived.Maps.AppendAt
namespace Go.Proofs.Ythlllcmffgdcmaa.BookRef
open Go.RowKit Go.Proofs.Ythlllcmffgdcmaa.PRecordReads Go.Proofs.Ythlllcmffgdcmaa.Reads Go.Proofs.Ythlllcmffgdcmaa.RefPut Go.Proofs.YthlllcmffgdcmaaW.PrintWords Go.Proofs.YthlllcmffgdcmaaW.PrintLast Go.Proofs.Ythlllcmffgdcmaa.LebPlain Go.Proofs.Ythlllcmffgdcmaa.LebWords Go.Proofs.Ythlllcmffgdcmaa.RecPlain Go.Proofs.Ythlllcmffgdcmaa.LebRecordReads Go.Proofs.Ythlllcmffgdcmaa.RecRecordReads
open Go.Proofs.Ythlllcmffgdcmaa.BookSome (recQ rd_recQ)

theorem refPut_f (n : Nat) : ∀ k, n < 18446744073709551616 → (putN n).length < k → shunterref01_Put.f k (n : Int) = some (putS n) := by
  induction n using putN.induct with
  | case1 n h =>
    intro k _ hk
    obtain ⟨k, rfl⟩ : ∃ m, k = m + 1 := ⟨k - 1, by omega⟩
    rw [shunterref01_Put.f, if_pos (show (n : Int) < 128 by omega), show (n : Int) % 256 = (n : Int) from by omega]
    unfold putS; rw [putN_small h]; rfl
  | case2 n h ih =>
    intro k hn hk
    obtain ⟨k, rfl⟩ : ∃ m, k = m + 1 := ⟨k - 1, by omega⟩
    rw [putN_big h] at hk
    simp only [List.length_cons] at hk
    have e1 : IntKind.u64.wrap (Int.tdiv (n : Int) 128) = ((n / 128 : Nat) : Int) := by
      rw [Int.tdiv_eq_ediv_of_nonneg (by omega), IntKind.wrap_u64]; omega
    have e2 : (((Int.tmod (n : Int) 128) % 256) + 128) % 256 = ((n % 128 + 128 : Nat) : Int) := by
      rw [Int.tmod_eq_emod_of_nonneg (by omega)]; omega
    rw [shunterref01_Put.f, if_neg (show ¬ (n : Int) < 128 by omega), e1, e2, ih k (by omega) (by omega)]
    have hl := putN_len (n / 128) (by omega)
    have hs : (strOfNums [((n % 128 + 128 : Nat) : Int)]).size = 1 := by rw [strOfNums_size]; rfl
    simp only [Option.bind_some]
    rw [if_pos (by rw [hs, putS_size]; omega)]
    congr 1
    apply bl_inj
    have h1 := bl_nums [n % 128 + 128] (fun b hb => by simp only [List.mem_singleton] at hb; omega)
    simp only [List.map_cons, List.map_nil, Int.ofNat_eq_natCast] at h1
    rw [bl_append, bl_putS, bl_putS, putN_big h, h1]; rfl

theorem join_eq (n : Nat) (h : n < 18446744073709551616) :
    IntKind.u64.wrap ((IntKind.u64.wrap ((IntKind.u64.wrap (4 * (recQ n).f1)) + (IntKind.u64.wrap (recQ n).f0))) - 1) = (n : Int) := by
  simp only [IntKind.wrap_u64, recQ]
  omega

theorem refbytes_l0 (ns : List Nat) (hn : ∀ n ∈ ns, n < 18446744073709551616) (hl : ns.length ≤ 1000000) : ∀ (d i k : Nat) (s : ByteArray), i + d = ns.length → d + 20 ≤ k → bl s = rowB (ns.take i) →
    ∃ r, shunterref02_Bytes.l0 k s (ns.map recQ) (ns.length : Int) (i : Int) = some r ∧ bl r = rowB ns := by
  intro d
  induction d with
  | zero =>
    intro i k s hi hk hs
    obtain ⟨k, rfl⟩ : ∃ m, k = m + 1 := ⟨k - 1, by omega⟩
    obtain rfl : i = ns.length := by omega
    rw [shunterref02_Bytes.l0, if_neg (show ¬ ((ns.length : Int) < (ns.length : Int)) by omega)]
    exact ⟨s, rfl, by rw [hs, List.take_length]⟩
  | succ d ih =>
    intro i k s hi hk hs
    obtain ⟨k, rfl⟩ : ∃ m, k = m + 1 := ⟨k - 1, by omega⟩
    have hlt : i < ns.length := by omega
    have hni := hn ns[i] (List.getElem_mem hlt)
    have hpre := rowB_len (ns.take i) (fun x hx => hn x (List.mem_of_mem_take hx))
    have htk : (ns.take i).length ≤ 1000000 := by rw [List.length_take]; omega
    have hl10 := putN_len ns[i] hni
    have hsz : s.size = (rowB (ns.take i)).length := by rw [← bl_length, hs]
    rw [shunterref02_Bytes.l0, if_pos (show ((i : Int) < (ns.length : Int)) by omega), if_pos (show (0 : Int) ≤ (i : Int) by omega), if_pos (show (i : Int) < ((ns.map recQ).length : Int) by rw [List.length_map]; omega),
      rd_recQ ns i hlt, join_eq _ hni, refPut_f _ k hni (by omega), Option.bind_some, if_pos (by rw [putS_size]; omega), show wrap64 ((i : Int) + 1) = ((i + 1 : Nat) : Int) from by unfold wrap64; omega]
    exact ih (i + 1) k _ (by omega) (by omega) (by rw [bl_append, bl_putS, hs, List.take_succ_eq_append_getElem hlt, rowB_append, rowB_one])

theorem refbytes_f (ns : List Nat) (hn : ∀ n ∈ ns, n < 18446744073709551616) (hl : ns.length ≤ 1000000) (k : Nat) (hk : ns.length + 20 ≤ k) :
    ∃ r, shunterref02_Bytes.f k (ns.map recQ) = some r ∧ bl r = rowB ns := by
  have := refbytes_l0 ns hn hl ns.length 0 k (⟨#[]⟩ : ByteArray) (by omega) (by omega) rfl
  unfold shunterref02_Bytes.f
  rw [List.length_map]
  exact this

end Go.Proofs.Ythlllcmffgdcmaa.BookRef
namespace Go.Proofs.Ythlllcmffgdcmaa.Book
open Go.RowKit Go.Proofs.YthlllcmffgdcmaaW.PrintWords Go.Proofs.YthlllcmffgdcmaaW.PrintLast Go.Proofs.YthlllcmffgdcmaaW.PrintMore Go.Proofs.Ythlllcmffgdcmaa.Stores Go.Proofs.Ythlllcmffgdcmaa.LebPlain Go.Proofs.Ythlllcmffgdcmaa.LebWords Go.Proofs.Ythlllcmffgdcmaa.RecPlain Go.Proofs.Ythlllcmffgdcmaa.SegPlain Go.Proofs.Ythlllcmffgdcmaa.SegLinkQSegmentOpens
open Go.Proofs.Ythlllcmffgdcmaa.PRecordReads (S31 k31 S36 k36)
open Go.Proofs.Ythlllcmffgdcmaa.BookSome (recQ)
attribute [local go_sem] max2_int min2_int max_two min_two
set_option linter.unusedVariables false
set_option linter.unusedSimpArgs false

/-- Groups as the document cuts them: of m each, the last of at most m. -/
def Full (m : Nat) : List (List Nat) → Prop
  | [] => True
  | g :: gs => 0 < g.length ∧ g.length ≤ m ∧ (gs ≠ [] → g.length = m) ∧ Full m gs
theorem full_flu (m : Nat) (hm : 1 ≤ m) (ws : List Nat) (hw : ws.length < m) : ∀ (gs : List (List Nat)), (∀ g ∈ gs, g.length = m) → Full m (fluG gs ws) := by
  intro gs
  unfold fluG
  induction gs with
  | nil =>
    intro _
    split
    · trivial
    · exact ⟨by omega, by omega, fun h => absurd rfl h, trivial⟩
  | cons g gs ih =>
    intro h
    have hg := h g (List.mem_cons_self ..)
    have h2 := ih fun x hx => h x (List.mem_cons_of_mem _ hx)
    split
    · rename_i h0
      rw [if_pos h0] at h2
      exact ⟨by omega, by omega, fun _ => hg, h2⟩
    · rename_i h0
      rw [if_neg h0] at h2
      exact ⟨by omega, by omega, fun _ => hg, h2⟩
theorem full_each (m : Nat) : ∀ (a : List (List Nat)), Full m a → ∀ g ∈ a, 0 < g.length ∧ g.length ≤ m
  | [], _, _, hg => by cases hg
  | x :: a, h, g, hg => by
    rcases List.mem_cons.1 hg with e | e
    · rw [e]; exact ⟨h.1, h.2.1⟩
    · exact full_each m a h.2.2.2 g e
theorem full_drop (m : Nat) : ∀ (a : List (List Nat)) {b : List (List Nat)}, Full m (a ++ b) → Full m b
  | [], _, h => h
  | _ :: a, _, h => full_drop m a h.2.2.2
theorem strB_snoc (a : List (List Nat)) (g : List Nat) : strB (logF 0 a) ++ segB a.length g = strB (logF 0 (a ++ [g])) := by
  apply bl_inj
  rw [bl_append, bl_strB _ (logF_lt a 0), bl_segB, bl_strB _ (logF_lt _ 0), logF_snoc]
theorem strB_logF_size (a : List (List Nat)) : (strB (logF 0 a)).size = (logF 0 a).length := by rw [← bl_length, bl_strB _ (logF_lt a 0)]
/-- The first group is what the document takes. -/
theorem full_min {m : Nat} {g : List Nat} {gs : List (List Nat)} (h : Full m (g :: gs)) : min m (g :: gs).flatten.length = g.length := by
  obtain ⟨h1, h2, h3, h4⟩ := h
  rw [List.flatten_cons, List.length_append]
  cases gs with
  | nil => simp; omega
  | cons a b => have := h3 (by simp); omega
theorem refbytes_calls (w : World) (A : Option Addr) (c : Nat) (ns : List Nat) (hn : ∀ n ∈ ns, n < 18446744073709551616) (hl : ns.length ≤ 1000) (h : Kd.C k36 w A ns.length (ns.map recQ)) (hc : ns.length ≤ c) : Calls Try.prog 22 #[.slice A ns.length c] w fun e w' => e = .returned (.string (bodyS ns)) ∧ Below w.heap.size w w' := by
  obtain ⟨r, hr, hb⟩ := BookRef.refbytes_f ns hn (by omega) 2000 (by omega)
  have e : r = bodyS ns := bl_inj (by rw [hb, bl_bodyS])
  subst e
  have := Go.Proofs.Ythlllcmffgdcmaa.RefPut.shunterref02_Bytes.calls 2000 A c (ns.map recQ) _ w (by rw [List.length_map]; exact h) (by rw [List.length_map]; exact hc) hr
  rw [List.length_map] at this
  exact this
theorem refframe_calls (w : World) (q : Nat) (hq : q < 18446744073709551616) (ns : List Nat) (hn : ∀ n ∈ ns, n < 18446744073709551616) (hl : ns.length ≤ 400) : Calls Try.prog 32 #[.int .u64 (q : Int), .string (bodyS ns)] w fun e w' => e = .returned (.string (segB q ns)) ∧ Below w.heap.size w w' := by
  obtain ⟨t, ht, hb⟩ := Go.Proofs.Ythlllcmffgdcmaa.Pure.refframe_f q hq (bodyS ns) (by have := body_le ns hn hl; omega) 60000 (Nat.le_refl _)
  have e : t = segB q ns := bl_inj (by rw [hb, bl_bodyS, bl_segB])
  subst e
  exact Go.Proofs.Ythlllcmffgdcmaa.QSegmentOpens.shunterref05_Frame.calls 60000 (q : Int) (bodyS ns) _ w ht

set_option maxHeartbeats 4000000 in
set_option maxRecDepth 100000 in
theorem text_calls (w : World) (m : Nat) (hm : 1 ≤ m) (hm4 : m ≤ 400) (gs : List (List Nat)) (hF : Full m gs) (hn : ∀ n ∈ gs.flatten, n < 18446744073709551616) (hl : gs.flatten.length ≤ 1000) (A : Option Addr) (N c : Nat) (hN : N = gs.flatten.length) (h : Kd.C k36 w A N (gs.flatten.map recQ)) (hc : N ≤ c) :
    Calls Try.prog 49 #[.slice A N c, .int .i64 (m : Int)] w fun e w' => e = .returned (.string (strB (logF 0 gs))) ∧ Below w.heap.size w w' := by
  have HF := Aside0.mk hF
  have HN := Aside0.mk hn
  have HK := Aside0.mk h
  have HC := Aside0.mk (And.intro hc (And.intro hN hl))
  have HM := Aside0.mk (And.intro hm hm4)
  clear hF hn h hc hN hl hm hm4
  go_enter Try.func49, Try.ntmps49
  go_wp2
  go_loopw [0, 5, 6] (fun v0 v5 v6 wr => ∃ (ga gb : List (List Nat)) (A' : Option Addr) (n' c' : Nat), gs = ga ++ gb ∧ v0 = .slice A' n' c' ∧ n' = gb.flatten.length ∧ n' ≤ c' ∧ v5 = .string (strB (logF 0 ga)) ∧ v6 = .int .i64 ga.length ∧ Kd.C k36 wr A' n' (gb.flatten.map recQ) ∧ Below w.heap.size w wr) (fun x _ _ _ => (match x with | .slice _ n _ => n | _ => 0))
  case atStart => exact ⟨[], gs, A, N, c, rfl, rfl, HC.out.2.1, HC.out.1, by first | rfl | (congr 1), rfl, HK.out, Below.refl _ _⟩
  case round =>
    obtain ⟨ga, gb, A', n', c', hgs, rfl, hn', hc', rfl, rfl, hk, hb⟩ := hrel
    cases gb with
    | nil =>
      simp only [List.flatten_nil, List.length_nil] at hn'
      subst hn'
      rw [List.append_nil] at hgs
      subst hgs
      have HB := Aside0.mk hb
      clear hk hb HK HN HF
      go_wp2
      go_ret
      exact ⟨rfl, HB.out⟩
    | cons g rest =>
      have hfd := full_drop m ga (hgs ▸ HF.out)
      have hmin := full_min hfd
      have hfl : ((g :: rest).flatten.map recQ).length = n' := by rw [List.length_map, hn']
      have hgl : g.length ≤ n' := by rw [hn', List.flatten_cons, List.length_append]; omega
      have hrl : n' - g.length = rest.flatten.length := by rw [hn', List.flatten_cons, List.length_append]; omega
      have hk' : Kd.C k36 wr A' ((g :: rest).flatten.map recQ).length ((g :: rest).flatten.map recQ) := by rw [hfl]; exact hk
      have etake : ((g :: rest).flatten.map recQ).take g.length = g.map recQ := by rw [List.flatten_cons, List.map_append, List.take_left' (by rw [List.length_map])]
      have edrop : ((g :: rest).flatten.map recQ).drop g.length = rest.flatten.map recQ := by rw [List.flatten_cons, List.map_append, List.drop_left' (by rw [List.length_map])]
      have ht := Kd.C_take hk' (m := g.length) (by rw [hfl]; exact hgl)
      have hd := Kd.C_drop hk' (m := g.length) (c := c') (by rw [hfl]; exact hgl) (by rw [hfl]; exact hc')
      rw [etake, List.length_map] at ht
      rw [edrop, List.length_map] at hd
      have hmem : ∀ x ∈ gs, ∀ n ∈ x, n < 18446744073709551616 := fun x hx n hxn => HN.out n (List.mem_flatten.2 ⟨x, hx, hxn⟩)
      have hg0 := hfd.1
      have hgm := hfd.2.1
      have hgn := hmem g (by rw [hgs]; simp)
      have hsz : gs.flatten.length = ga.flatten.length + n' := by rw [hgs, List.flatten_append, List.length_append, hn']
      have hmany : ga.length + (g :: rest).length ≤ 1000 := by
        have := many_le gs (fun x hx => ?_)
        · rw [hgs, List.length_append] at this; have := HC.out.2.2; rw [hgs] at this; omega
        · exact (full_each m gs HF.out x hx).1
      rw [← hn', ] at hmin
      have hsz2 := log_size ga 0 (fun x hx => ⟨(full_each m gs HF.out x (by rw [hgs]; exact List.mem_append_left _ hx)).1, by have := (full_each m gs HF.out x (by rw [hgs]; exact List.mem_append_left _ hx)).2; have := HM.out.2; omega, hmem x (by rw [hgs]; exact List.mem_append_left _ hx)⟩) (by omega)
      have HT := Aside0.mk (And.intro ht hd)
      have HGN := Aside0.mk hgn
      have HB := Aside0.mk hb
      have HM1 := HM.out.1
      have HM2 := HM.out.2
      have HGS := Aside0.mk hgs
      have HLN := Aside0.mk (And.intro hg0 (And.intro hrl hmany))
      have HNN := Aside0.mk (show gs.flatten.length ≤ 1000 ∧ n' ≤ 1000 from ⟨HC.out.2.2, by have := HC.out.2.2; omega⟩)
      have HSZ := Aside0.mk (show (strB (logF 0 ga)).size ≤ 36000 by rw [strB_logF_size]; have := HC.out.2.2; omega)
      have HSN := Aside0.mk (strB_snoc ga g)
      have HSG := Aside0.mk (show (segB ga.length g).size ≤ 10000 by have := frame_size ga.length (by omega) g (by omega) hgn; rw [segB_size]; omega)
      obtain ⟨gl, hgl'⟩ : ∃ gl, g.length = gl := ⟨_, rfl⟩
      obtain ⟨q, hq⟩ : ∃ q, ga.length = q := ⟨_, rfl⟩
      obtain ⟨y, hy⟩ : ∃ y, strB (logF 0 ga) = y := ⟨_, rfl⟩
      have HQ := Aside0.mk (show q < 1000 ∧ 0 < gl by rw [List.length_cons] at hmany; omega)
      rw [hgl'] at hmin hgl hgm
      have em1 : (if (n' : Int) < (m : Int) then (n' : Int) else (m : Int)) = (gl : Int) := by split <;> omega
      have em2 : (if (m : Int) < (n' : Int) then (m : Int) else (n' : Int)) = (gl : Int) := by split <;> omega
      have em3 : (if n' < m then (n' : Int) else (m : Int)) = (gl : Int) := by split <;> omega
      have em4 : (if m < n' then (m : Int) else (n' : Int)) = (gl : Int) := by split <;> omega
      have b1 : (0 : Int) < (n' : Int) := by have := HQ.out.2; omega
      have b2 : (0 : Int) ≤ (gl : Int) := by omega
      have b3 : (gl : Int) ≤ (c' : Int) := by omega
      have b4 : (gl : Int) ≤ (n' : Int) := by omega
      have HGL := Aside0.mk (And.intro hgl hgl')
      have HC2 := Aside0.mk hc'
      have HQQ := Aside0.mk hq
      have HYY := Aside0.mk hy
      rw [hq, hy]
      clear hk hb hk' etake edrop ht hd hgs hfd hmin hfl hgl hrl hmem hg0 hgn hsz hmany hsz2 hgl' hq hy hn' hc'
      obtain ⟨sg, hsg⟩ : ∃ sg, segB q g = sg := ⟨_, rfl⟩
      have HSGE := Aside0.mk hsg
      have hys : y.size + sg.size ≤ 9223372036854775807 := by have h1 := HSZ.out; have h2 := HSG.out; rw [HYY.out] at h1; rw [HQQ.out, hsg] at h2; omega
      have eu : IntKind.u64.wrap (q : Int) = (q : Int) := by rw [IntKind.wrap_u64]; have := HQ.out.1; omega
      have ewq : wrap64 ((q : Int) + 1) = (q : Int) + 1 := by unfold wrap64; have := HQ.out.1; omega
      have hby := refbytes_calls wr A' c' g HGN.out (by have := HGL.out; have := HNN.out; omega) HT.out.1 (by have := HGL.out; omega)
      rw [HGL.out.2] at hby
      have hfy := fun w => refframe_calls w q (Nat.lt_of_lt_of_le HQ.out.1 (by decide)) g HGN.out (by rw [HGL.out.2]; exact Nat.le_trans hgm HM2)
      rw [hsg] at hfy
      obtain ⟨bd, hbd⟩ : ∃ bd, bodyS g = bd := ⟨_, rfl⟩
      rw [hbd] at hby hfy
      have HBY := Aside0.mk hby
      have HFY := Aside0.mk hfy
      clear hby hfy hbd
      clear hsg
      go_wp2_with (first
        | (go_at_call 22; (with_reducible refine HBY.out.mono ?_); rintro e w1 ⟨rfl, hb⟩; have HB1 := Aside0.mk (below_then HB.out HB.out.size hb); have HT1 := Aside0.mk (Kd.C_below HT.out.2 hb); clear hb)
        | (go_at_call 32; (with_reducible refine (HFY.out _).mono ?_); rintro e w2 ⟨rfl, hb⟩; have HB2 := Aside0.mk (below_then HB1.out HB1.out.size hb); have HT2 := Aside0.mk (Kd.C_below HT1.out hb); clear hb))
      refine ⟨⟨ga ++ [g], rest, _, _, _, by rw [HGS.out, List.append_assoc]; rfl, rfl, ?_, ?_, ?_, ?_, ?_, HB2.out⟩, ?_⟩
      · rw [← HLN.out.2.1, HGL.out.2]
      · have := HC2.out
        omega
      · rw [← HSN.out, HYY.out, HQQ.out, HSGE.out]
      · rw [ewq, List.length_append, HQQ.out]; rfl
      · have h := HT2.out
        rw [← HLN.out.2.1, HGL.out.2] at h
        exact h
      · show n' - gl < n'
        have := HQ.out.2
        have := HGL.out.1
        omega
end Go.Proofs.Ythlllcmffgdcmaa.Book

namespace Go.Proofs.Ythlllcmffgdcmaa.Book
open Go.RowKit Go.Proofs.YthlllcmffgdcmaaW.PrintWords Go.Proofs.YthlllcmffgdcmaaW.PrintLast Go.Proofs.YthlllcmffgdcmaaW.PrintMore Go.Proofs.Ythlllcmffgdcmaa.Stores Go.Proofs.Ythlllcmffgdcmaa.LebPlain Go.Proofs.Ythlllcmffgdcmaa.LebWords Go.Proofs.Ythlllcmffgdcmaa.RecPlain Go.Proofs.Ythlllcmffgdcmaa.SegPlain Go.Proofs.Ythlllcmffgdcmaa.SegLinkQSegmentOpens
open Go.Proofs.Ythlllcmffgdcmaa.PRecordReads (S31 k31 S36 k36)
open Go.Proofs.Ythlllcmffgdcmaa.RecRecordReads (recP)
open Go.Proofs.Ythlllcmffgdcmaa.BookSome (recQ told_f)
set_option linter.unusedVariables false
set_option linter.unusedSimpArgs false

section
variable {P : Program}
theorem wp_append_row {o : Oper} {a : Act} {K : Act → World → Prop} {Q : Exit → Act → World → Prop} (W : World) (s x : Operand) (t : TypeId)
    (ho : o.op = .call { callee := .builtin .append, args := #[s, x], argTypes := #[t, t] })
    (base : Nat) (e : TypeId) (i : TypeInfo) (z : Value) (size bytes : Nat) (ht : P.underlying t = some (.slice e)) (hi : P.info? e = some i) (hz : i.zero = some z)
    (hsize : i.size = size) (hby : i.bytes = bytes) (hzs : z.cells.size = size) (hsz : 0 < size)
    (v : Value) (n : Nat) (xs : List Value) (hs : a.eval s = v) (hown : W.ownsRow base e size v n xs)
    (b2 m : Nat) (u : Value) (ys : List Value) (hx : a.eval x = u) (hrow : W.ownsRow b2 e size u m ys) (h1 : ∀ y ∈ ys, y.oneCell' = true)
    (h63 : n + m ≤ maxLen) (hbytes : (n + m) * bytes ≤ 140737488355328) (hbase : base ≤ W.heap.size)
    (h : ∀ A c w1, w1.ownsRow base e size (.slice A (n + m) c) (n + m) (xs ++ ys) → W.grownBy w1 v.ownBlock → K (a.put o.dst (.slice A (n + m) c)) w1) : Oper.wp P o a W K Q := by
  have hrun : ∃ v1 w1, (Builtin.append_ #[t, t] o.type #[v, u]).run P W = .ok v1 w1 ∧ w1.ownsRow base e size v1 (n + m) (xs ++ ys) ∧ W.grownBy w1 v.ownBlock := by
    rcases hrow.2 with ⟨rfl, rfl⟩ | ⟨g, cap, cur, rfl, hb, hh, hc, hm, hcs, hct⟩
    · have hx0 : ys = [] := List.eq_nil_of_length_eq_zero (by simpa using hrow.1)
      subst hx0
      refine ⟨v, W, ?_, by simpa using hown, World.grownBy.refl W _⟩
      rcases hown.2 with ⟨rfl, rfl⟩ | ⟨g, cap, cur, rfl, hb, hh, hc, hm, hcs, hct⟩
      · simp [Builtin.append_, run_underlying ht, sizeOf, typeInfo, hi, Builtin.lenOf, Builtin.firstCells, storeCells]
      · simp [Builtin.append_, run_underlying ht, sizeOf, typeInfo, hi, Builtin.lenOf, Builtin.firstCells, storeCells, hc, hm]
    · have hnews : ∀ j y, ys[j]? = some y → W.cell? ((⟨g, 0, none⟩ : Addr).add j) = some y := fun j y hj => by
        have hadd : (⟨g, 0, none⟩ : Addr).add j = ⟨g, j, none⟩ := by unfold Addr.add; split <;> simp_all
        rw [hadd, cell_of_row W g j cur e (0, 0) hh]
        have hjl : j < m * size := by
          rcases Nat.lt_or_ge j (m * size) with h | h
          · exact h
          · rw [List.getElem?_eq_none (by rw [hrow.1]; exact h)] at hj; cases hj
        rw [← hct, List.getElem?_take_of_lt hjl, Array.getElem?_toList] at hj
        exact hj
      obtain ⟨v1, w1, hr, h2, h3, _⟩ := run_append_own_at (P := P) W base t o.type e i z size bytes ht hi hz hsize hby hzs hsz _ n xs hown ⟨g, 0, none⟩ m cap ys hrow.1 hnews h1 h63 hbytes hbase
      exact ⟨v1, w1, hr, h2, h3⟩
  obtain ⟨v1, w1, hr, hown1, hg⟩ := hrun
  obtain ⟨A, c, rfl⟩ := own_slice hown1
  unfold Oper.wp execOp
  simp only [ho, resolve, invoke, builtin, Sem.run_bind, Sem.run_pure, Result.andThen_ok, List.map_toArray, List.map_cons, List.map_nil, hs, hx, hr]
  exact h A c w1 hown1 hg
theorem step_append_row {ops : Array Oper} {o : Oper} {a : Act} {K : Act → World → Prop} {Q : Exit → Act → World → Prop} {E : Prop} {W : World} (hgd : o.guard = none) (s x : Operand) (t : TypeId)
    (ho : o.op = .call { callee := .builtin .append, args := #[s, x], argTypes := #[t, t] })
    (base : Nat) (e : TypeId) (i : TypeInfo) (z : Value) (size bytes : Nat) (ht : P.underlying t = some (.slice e)) (hi : P.info? e = some i) (hz : i.zero = some z)
    (hsize : i.size = size) (hby : i.bytes = bytes) (hzs : z.cells.size = size) (hsz : 0 < size)
    (v : Value) (n : Nat) (xs : List Value) (hs : a.eval s = v) (hown : W.ownsRow base e size v n xs)
    (b2 m : Nat) (u : Value) (ys : List Value) (hx : a.eval x = u) (hrow : W.ownsRow b2 e size u m ys) (h1 : ∀ y ∈ ys, y.oneCell' = true)
    (h63 : n + m ≤ maxLen) (hbytes : (n + m) * bytes ≤ 140737488355328) (hbase : base ≤ W.heap.size)
    (h : ∀ A c w1, w1.ownsRow base e size (.slice A (n + m) c) (n + m) (xs ++ ys) → W.grownBy w1 v.ownBlock → K (a.put o.dst (.slice A (n + m) c)) w1) :
    if Region.wanted o (yielded ops a.tmps) = true then Oper.wp P o a W K Q else E := by
  have hw : Region.wanted o (yielded ops a.tmps) = true := by simp [Region.wanted, hgd]
  rw [if_pos hw]
  exact wp_append_row W s x t ho base e i z size bytes ht hi hz hsize hby hzs hsz v n xs hs hown b2 m u ys hx hrow h1 h63 hbytes hbase h
end
variable {rm : Int}
theorem safe_c (B g : Nat) (xs : List Int) (safe : Int) (w : World) (h : Sto rm B w g xs safe) : Calls Try.prog 50 #[.pointer (some ⟨g, 0, none⟩)] w fun e w' => e = .returned (.int .i64 safe) ∧ w = w' := by
  obtain ⟨h1, v, h2, h3⟩ := h
  have c1 : w.cell? ⟨g, 1, none⟩ = some (.int .i64 safe) := (blk_cell h2 1).trans rfl
  clear h1 h2 h3
  go_enter Try.func50, Try.ntmps50
  go_wp2
  go_ret
  exact ⟨rfl, rfl⟩
/-- A part of a row told. -/
theorem told_calls' (w : World) (A : Option Addr) (c : Nat) (ns : List Nat) (hk : Kd.C k31 w A ns.length (ns.map recP)) (hc : ns.length ≤ c) (hl : ns.length ≤ 1000) : Calls Try.prog 21 #[.slice A ns.length c] w fun e w' => ∃ v', e = .returned v' ∧ OwnA w' w.heap.size v' ns ∧ Below w.heap.size w w' := by
  have := Go.Proofs.Ythlllcmffgdcmaa.Some.shunterlaw02_Told.calls (ns.length + 1) A c (ns.map recP) _ w (by rw [List.length_map]; exact hk) (by rw [List.length_map]; exact hc) (told_f ns (by omega) _ (by omega))
  rw [List.length_map] at this
  exact this.mono fun e w' ⟨v', e1, e2, e3⟩ => ⟨v', e1, ownA_of_kd e2, e3⟩
/-- A row's own, cut to its first. -/
theorem Own.cut {w : World} {B : Nat} {A : Option Addr} {n c : Nat} {ns : List Nat} (h : Own w B (.slice A n c) ns) (m : Nat) (hm : m ≤ n) : Own w B (.slice A m c) (ns.take m) := by
  have hlen : ns.length = n := by obtain ⟨A', c', e⟩ := h.slice; injection e with _ e _; exact e.symm
  have hml : (ns.take m).length = m := by rw [List.length_take]; omega
  have htk : (rcs ns).take (m * 2) = rcs (ns.take m) := by
    conv => lhs; rw [← List.take_append_drop m ns]
    rw [rcs_append, List.take_left' (by rw [rcs_len, hml])]
  obtain ⟨h1, h2⟩ := h
  refine ⟨by rw [rcs_len], ?_⟩
  rw [hml]
  rcases h2 with ⟨h2, h3⟩ | ⟨g, cap, cur, hv, hb, hh, hc, hmx, hcs, hct⟩
  · injection h2 with e1 e2 e3
    subst e1; subst e3
    obtain rfl : m = 0 := by omega
    exact .inl ⟨rfl, rfl⟩
  · injection hv with e1 e2 e3
    subst e1; subst e3
    refine .inr ⟨g, _, cur, rfl, hb, hh, by omega, hmx, hcs, ?_⟩
    rw [← htk, ← hct, List.take_take, hlen]
    congr 1
    omega
theorem open_fresh {B g : Nat} {w0 : World} (z : Int) (W : World) (h : Sto rm B W g [] 0) (hb : Below B w0 W) : Calls Try.prog 40 #[.pointer (some ⟨g, 0, none⟩), .int .i64 z] W fun e w' => ∃ gb A c, e = .returned (.tuple #[.pointer (some ⟨gb, 0, none⟩), .slice A 0 c, .int .i64 0]) ∧ Bo True rm B w0 w' gb g (most z) (.slice none 0 0) [] [] ∧ Tm W w' ∧ W.heap.size ≤ w'.heap.size :=
  (open_bo (rm := rm) (gs := []) (w0 := w0) [] 0 z h Good.nil (by simp) openL_none (by simp) (fun b hb => by cases hb) hb (S := True) (fun h => ⟨rfl, rfl⟩)).mono fun e w' ⟨gb, v, h1, h2, h3, h4, _, h5⟩ => by
    obtain ⟨A, c, rfl⟩ := h3.slice
    exact ⟨gb, A, c, h1, h2, h4, h5⟩
theorem Own.tm {w w' : World} {B : Nat} {v : Value} {ns : List Nat} (h : Own w B v ns) (ht : Tm w w') : Own w' B v ns := by
  obtain ⟨h1, h2⟩ := h
  refine ⟨h1, ?_⟩
  rcases h2 with h2 | ⟨g, cap, cur, rfl, hb, hh, r⟩
  · exact .inl h2
  · exact .inr ⟨g, cap, cur, rfl, hb, ht g _ _ hh (by decide) (by decide), r⟩
theorem wait_none (B gb g : Nat) (m q : Int) (vw : Value) (sure : Int) (w : World) (h : Bk B w gb g m q vw [] sure) : Calls Try.prog 42 #[.pointer (some ⟨gb, 0, none⟩)] w fun e w' => e = .returned (.int .i64 0) ∧ w = w' := waiting_calls B gb g m q vw [] sure w h
theorem bytes_y (B g : Nat) (l : List Nat) (y : ByteArray) (hy : strB l = y) (safe : Int) (w : World) (h : Sto rm B w g (l.map Int.ofNat) safe) : Calls Try.prog 47 #[.pointer (some ⟨g, 0, none⟩)] w fun e w' => e = .returned (.string y) ∧ w = w' := by
  subst hy
  exact bytes_c B g _ safe w h
theorem told_n (w : World) (B : Nat) (v : Value) (ns : List Nat) (n : Nat) (hn : ns.length = n) (h : Own w B v ns) (hl : n ≤ 1000) : Calls Try.prog 21 #[v] w fun e w' => ∃ A c, e = .returned (.slice A n c) ∧ Kd.C k36 w' A n (ns.map recQ) ∧ n ≤ c ∧ Below w.heap.size w w' :=
  (told_calls w B v ns h (by omega)).mono fun e w' ⟨v', h1, h2, h3⟩ => by
    obtain ⟨A, c, rfl, h4, h5⟩ := h2.reads
    rw [List.length_map] at h5
    subst hn
    exact ⟨A, c, h1, h5, h4, h3⟩
end Go.Proofs.Ythlllcmffgdcmaa.Book

namespace Go.Proofs.Ythlllcmffgdcmaa.Book
open Go.RowKit Go.Proofs.YthlllcmffgdcmaaW.PrintWords Go.Proofs.YthlllcmffgdcmaaW.PrintLast Go.Proofs.Ythlllcmffgdcmaa.LebPlain Go.Proofs.Ythlllcmffgdcmaa.LebWords Go.Proofs.Ythlllcmffgdcmaa.RecPlain Go.Proofs.Ythlllcmffgdcmaa.CrcPlain Go.Proofs.Ythlllcmffgdcmaa.SegPlain Go.Proofs.Ythlllcmffgdcmaa.SegLinkQSegmentOpens
set_option linter.unusedVariables false
set_option linter.unusedSimpArgs false

/-- A sum that is another is told, whatever stands behind. -/
theorem openL_sum_rest (seq n : Nat) (B F rest : List Nat) (hs : seq < 18446744073709551616) (hn : n ≤ 4096) (hB : B.length = n) (hF : F.length = 4) :
    (openL (headOf seq n ++ B ++ F ++ rest)).2.2.2 = if F = four (sumN (headOf seq n ++ B)) then 0 else 7 := by
  have hh := headL_frame seq n hs hn (B ++ (F ++ rest))
  have e : headOf seq n ++ B ++ F ++ rest = headOf seq n ++ (B ++ (F ++ rest)) := by simp
  have e2 : headOf seq n ++ (B ++ (F ++ rest)) = (headOf seq n ++ B) ++ (F ++ rest) := by simp
  unfold openL
  rw [e, hh]
  simp only
  rw [if_neg (by simp), if_neg (by simp only [List.length_append]; omega)]
  have d1 : (headOf seq n ++ (B ++ (F ++ rest))).drop ((headOf seq n).length + n) = F ++ rest := by
    rw [e2, ← hB, ← List.length_append, List.drop_left]
  have t1 : (headOf seq n ++ (B ++ (F ++ rest))).take ((headOf seq n).length + n) = headOf seq n ++ B := by
    rw [e2, ← hB, ← List.length_append, List.take_left]
  rw [d1, t1, List.take_left' hF]
  by_cases h : F = four (sumN (headOf seq n ++ B))
  · rw [if_neg (by simp [h]), if_pos h]
  · rw [if_pos h, if_neg h]
theorem spoilt_rest (seq : Nat) (B rest : List Nat) (hs : seq < 18446744073709551616) (hn : B.length ≤ 4096) (hB : ∀ b ∈ B, b < 256) (v bit i : Nat) (hi : i ≤ 32) (hb : bit + i ≤ 8 * B.length)
    (h : spoil (frameL seq B) v (8 * (headOf seq B.length).length + bit) i ≠ frameL seq B) : (openL (spoil (frameL seq B) v (8 * (headOf seq B.length).length + bit) i ++ rest)).2.2.2 ≠ 0 := by
  have h1 := spoilt_open seq B hs hn hB v bit i hi hb
  rw [if_neg h] at h1
  unfold frameL at h1 ⊢
  rw [spoil_app _ _ _ _ _ _ hb] at h1 ⊢
  rw [openL_sum seq B.length _ _ hs hn (spoil_length _ _ _ _) (four_len _)] at h1
  rw [openL_sum_rest seq B.length _ _ _ hs hn (spoil_length _ _ _ _) (four_len _), h1]
  decide

/-- Where the bits of a segment's body begin. -/
def bodyAt (gs : List (List Nat)) (j : Nat) : Nat := (logF 0 (gs.take j)).length + (headOf j (rowB (gs.getD j [])).length).length
theorem torn_split (gs : List (List Nat)) (j : Nat) (hj : j < gs.length) (v bit i : Nat) (hb : bit + i ≤ 8 * (rowB (gs.getD j [])).length) :
    spoil (logF 0 gs) v (8 * bodyAt gs j + bit) i = logF 0 (gs.take j) ++ (spoil (frameL j (rowB (gs.getD j []))) v (8 * (headOf j (rowB (gs.getD j [])).length).length + bit) i ++ logF (j + 1) (gs.drop (j + 1))) := by
  have hl := frameL_len j (rowB (gs.getD j []))
  rw [split_log gs j hj, ← List.append_assoc, show 8 * bodyAt gs j + bit = 8 * (logF 0 (gs.take j)).length + (8 * (headOf j (rowB (gs.getD j [])).length).length + bit) by unfold bodyAt; omega, spoil_app _ _ _ _ _ _ (by rw [hl]; omega), List.append_assoc]
theorem torn_at (gs : List (List Nat)) (j : Nat) (hj : j < gs.length) : (bodyAt gs j : Int) = (logE gs (j + 1) : Int) - 4 - ((rowB (gs.getD j [])).length : Int) := by
  have hl := frameL_len j (rowB (gs.getD j []))
  rw [logE_succ gs j hj, hl]
  unfold bodyAt logE
  omega
theorem take_good {gs : List (List Nat)} (h : Good gs) (j : Nat) : Good (gs.take j) := fun g hg => h g (List.mem_of_mem_take hg)
theorem take_flat_le (gs : List (List Nat)) (j : Nat) : (gs.take j).flatten.length ≤ gs.flatten.length := by
  conv => rhs; rw [← List.take_append_drop j gs]
  rw [List.flatten_append, List.length_append]
  omega
/-- What is read of a log that is spoilt in a segment. -/
theorem torn_whole (gs : List (List Nat)) (hg : Good gs) (hmany : gs.flatten.length ≤ 1000) (j : Nat) (hj : j < gs.length) (v bit i : Nat) (hi : i ≤ 32) (hb : bit + i ≤ 8 * (rowB (gs.getD j [])).length)
    (s : ByteArray) (hs : bl s = spoil (logF 0 gs) v (8 * bodyAt gs j + bit) i) (hne : bl s ≠ logF 0 gs) : Whole s (gs.take j) (logE (gs.take j)) := by
  have hlen := many_le gs fun g h => (hg g h).1
  have hsz := log_size gs 0 hg (by omega)
  have hgj := hg _ (getD_mem gs j hj)
  have hfz := frame_size j (by omega) _ hgj.2.1 hgj.2.2
  rw [torn_split gs j hj v bit i hb] at hs
  have hne2 : spoil (frameL j (rowB (gs.getD j []))) v (8 * (headOf j (rowB (gs.getD j [])).length).length + bit) i ≠ frameL j (rowB (gs.getD j [])) := fun e => by
    apply hne
    rw [hs, e, ← split_log gs j hj]
  refine whole_log (gs.take j) (take_good hg j) (Nat.le_trans (take_flat_le gs j) hmany) s _ hs (spoilt_rest j _ _ (by omega) hfz.2.2 (rowB_lt _) v bit i hi hb hne2) ?_
  rw [List.length_append, spoil_length]
  have h3 := congrArg List.length (split_log gs j hj)
  rw [List.length_append, List.length_append] at h3
  omega
theorem full_take (m : Nat) : ∀ (gs : List (List Nat)) (j : Nat), Full m gs → j < gs.length → (gs.take j).flatten.length = j * m
  | [], j, _, h => by simp at h
  | g :: gs, 0, _, _ => by simp
  | g :: gs, j + 1, h, hj => by
    have hne : gs ≠ [] := fun e => by rw [e] at hj; simp at hj
    have ih := full_take m gs j h.2.2.2 (by simpa using hj)
    rw [List.take_succ_cons, List.flatten_cons, List.length_append, ih, h.2.2.1 hne, Nat.add_mul]
    omega
theorem flat_take (gs : List (List Nat)) (j : Nat) : gs.flatten.take (gs.take j).flatten.length = (gs.take j).flatten := by
  conv => lhs; rw [← List.take_append_drop j gs, List.flatten_append]
  rw [List.take_append_drop j gs, List.take_left]
/-- So many as the segments ahead hold. -/
theorem torn_min {m : Nat} {gs : List (List Nat)} (h : Full m gs) {j : Nat} (hj : j < gs.length) : min (j * m) gs.flatten.length = (gs.take j).flatten.length := by
  rw [← full_take m gs j h hj]
  have := take_flat_le gs j
  omega
end Go.Proofs.Ythlllcmffgdcmaa.Book

namespace Go.Proofs.Ythlllcmffgdcmaa.Book
open Go.RowKit Go.Proofs.YthlllcmffgdcmaaW.PrintWords Go.Proofs.YthlllcmffgdcmaaW.PrintLast Go.Proofs.YthlllcmffgdcmaaW.PrintMore Go.Proofs.Ythlllcmffgdcmaa.Stores Go.Proofs.Ythlllcmffgdcmaa.LebPlain Go.Proofs.Ythlllcmffgdcmaa.LebWords Go.Proofs.Ythlllcmffgdcmaa.RecPlain Go.Proofs.Ythlllcmffgdcmaa.SegPlain Go.Proofs.Ythlllcmffgdcmaa.SegLinkQSegmentOpens
attribute [local go_sem] max2_int min2_int max_two min_two
set_option linter.unusedVariables false
set_option linter.unusedSimpArgs false

theorem live_frame (w : World) : ∃ F : ByteArray, F.size = 8 ∧ Calls Try.prog 30 #[.int .u64 0, .string ⟨#[]⟩] w fun e w' => e = .returned (.tuple #[.string F, .int .i64 0]) ∧ Below w.heap.size w w' := by
  refine ⟨strB (frameL 0 []), ?_, Go.Proofs.Ythlllcmffgdcmaa.Spoilt.frame_calls 0 (by decide) ⟨#[]⟩ _ (by decide) rfl w⟩
  rw [← bl_length, bl_strB _ (frameL_lt _ _ (fun b hb => by cases hb)), frameL_len, headOf_len, List.length_nil, putN_small (by decide : 0 < 128)]
  rfl
theorem live_bytes (w : World) : Calls Try.prog 19 #[.agg #[.int .i64 1, .int .u64 3]] w fun e w' => e = .returned (.string ⟨#[12]⟩) ∧ Below w.heap.size w w' :=
  Go.Proofs.Ythlllcmffgdcmaa.PRecordReads.record_Record_Bytes.calls 3 1 3 ⟨#[12]⟩ w (by decide +kernel)
set_option maxHeartbeats 1000000 in
theorem live_calls (w : World) : Calls Try.prog 51 #[] w fun e w' => e = .returned (.bool true) ∧ Below w.heap.size w w' := by
  obtain ⟨F, hF, hc⟩ := live_frame w
  have HC := Aside0.mk hc
  have hF8 : (F.size : Int) = 8 := by omega
  clear hc
  go_enter Try.func51, Try.ntmps51
  go_wp2_with (first
    | (go_at_call 30; (with_reducible refine HC.out.mono ?_); rintro e w1 ⟨rfl, hb⟩; have HB := Aside0.mk hb; clear hb)
    | (go_at_call 19; (with_reducible refine (live_bytes w1).mono ?_); rintro e w2 ⟨rfl, hb⟩; have HB2 := Aside0.mk (below_then HB.out HB.out.size hb); clear hb))
  go_ret
  exact ⟨rfl, HB2.out⟩
theorem i64_and255 (n : Int) : Go.bits .and .i64 n 255 = n % 256 := by
  have h127 : (BitVec.ofInt 64 255).toNat = 2 ^ 8 - 1 := by decide
  have key : (BitVec.ofInt 64 n &&& BitVec.ofInt 64 255).toNat = (n % ((2 ^ 64 : Nat) : Int)).toNat % 2 ^ 8 := by
    rw [BitVec.toNat_and, BitVec.toNat_ofInt, h127, Nat.and_two_pow_sub_one_eq_mod]
  show IntKind.i64.wrap ((BitVec.ofInt 64 n &&& BitVec.ofInt 64 255).toNat : Nat) = n % 256
  rw [key, IntKind.wrap_i64]
  omega
theorem i64_and65535 (n : Int) : Go.bits .and .i64 n 65535 = n % 65536 := by
  have h127 : (BitVec.ofInt 64 65535).toNat = 2 ^ 16 - 1 := by decide
  have key : (BitVec.ofInt 64 n &&& BitVec.ofInt 64 65535).toNat = (n % ((2 ^ 64 : Nat) : Int)).toNat % 2 ^ 16 := by
    rw [BitVec.toNat_and, BitVec.toNat_ofInt, h127, Nat.and_two_pow_sub_one_eq_mod]
  show IntKind.i64.wrap ((BitVec.ofInt 64 n &&& BitVec.ofInt 64 65535).toNat : Nat) = n % 65536
  rw [key, IntKind.wrap_i64]
  omega
/-- A row of numbers, one above the other. -/
def row (a : Int) (m : Nat) : List Int := (List.range m).map fun k : Nat => a + (k : Int)
theorem row_length (a : Int) (m : Nat) : (row a m).length = m := by simp [row]
theorem row_snoc (a : Int) (m : Nat) : row a m ++ [a + (m : Int)] = row a (m + 1) := by simp [row, List.range_succ]
theorem row_cons (a : Int) (m : Nat) : row a (m + 1) = a :: row (a + 1) m := by
  simp only [row, List.range_succ_eq_map, List.map_cons, List.map_map]
  congr 1
  · simp
  · apply List.map_congr_left; intro k _; simp only [Function.comp]; push_cast; omega
/-- Where the segments end. -/
def endsV (gs : List (List Nat)) : List Value := (List.range (gs.length + 1)).map fun i => .int .i64 (logE gs i : Int)
theorem endsV_len (gs : List (List Nat)) : (endsV gs).length = gs.length + 1 := by simp [endsV]
theorem endsV_get (gs : List (List Nat)) (i : Nat) (h : i ≤ gs.length) : (endsV gs)[i]? = some (.int .i64 (logE gs i : Int)) := by
  unfold endsV
  rw [List.getElem?_map, List.getElem?_range (by omega)]
  rfl
theorem endsV_snoc (gs : List (List Nat)) (g : List Nat) : endsV (gs ++ [g]) = endsV gs ++ [.int .i64 ((logF 0 (gs ++ [g])).length : Int)] := by
  unfold endsV
  rw [List.length_append, List.length_singleton, List.range_succ, List.map_append, List.map_singleton]
  congr 1
  · apply List.map_congr_left
    intro i hi
    rw [List.mem_range] at hi
    unfold logE
    rw [List.take_append_of_le_length (by omega)]
  · have h := logE_all (gs ++ [g])
    rw [List.length_append, List.length_singleton] at h
    rw [h]
def OwnE (w : World) (B : Nat) (v : Value) (gs : List (List Nat)) : Prop := w.ownsRow B 3 1 v (gs.length + 1) (endsV gs)
theorem info3 : (Try.prog.info? 3).map (fun i => (i.zero, i.size, i.bytes)) = some (some (.int .i64 0), 1, 8) := by kernel_rfl
theorem OwnE.first (w : World) (B : Nat) (hB : B ≤ w.heap.size) : OwnE (w.alloc (.cells #[.int .i64 0] 3)) B (.slice (some ⟨w.heap.size, 0, none⟩) 1 1) [] :=
  ⟨rfl, .inr ⟨w.heap.size, 1, #[.int .i64 0], rfl, hB, blk_new w _, Nat.le_refl _, by unfold maxLen; omega, rfl, rfl⟩⟩
theorem OwnE.fr {w w' : World} {B B' gb : Nat} {vw ve : Value} {cs : Array Value} {gs : List (List Nat)} {ws : List Nat} (h : OwnE w B ve gs) (hf : Fr gb vw w w') (hgb : w.heap[gb]? = some (.cells cs 98 (0, 0))) (hw : Own w B' vw ws) : OwnE w' B ve gs :=
  row_fr h hf hgb ⟨by decide, by decide, by decide⟩ (ne_types h hw (by decide))
theorem OwnE.at_ {w : World} {B n c : Nat} {A : Option Addr} {gs : List (List Nat)} (h : OwnE w B (.slice A n c) gs) : ∃ ge, A = some ⟨ge, 0, none⟩ ∧ n = gs.length + 1 ∧ n ≤ c ∧ ∀ i, i ≤ gs.length → w.cell? ⟨ge, i, none⟩ = some (.int .i64 (logE gs i : Int)) := by
  obtain ⟨h1, h2⟩ := h
  rcases h2 with ⟨_, h2⟩ | ⟨g, cap, cur, hv, hb, hh, hc, hm, hcs, hct⟩
  · omega
  · injection hv with e1 e2 e3
    subst e1; subst e3
    refine ⟨g, rfl, e2, by omega, fun i hi => ?_⟩
    rw [cell_of_row w g i cur 3 (0, 0) hh, ← Array.getElem?_toList, ← endsV_get gs i hi, ← hct, List.getElem?_take_of_lt (by omega)]
theorem OwnE.below {w w' : World} {B : Nat} {v : Value} {gs : List (List Nat)} (h : OwnE w B v gs) (hb : Below w.heap.size w w') : OwnE w' B v gs := pw_own_below h hb
/-- A row of decisions, beside a row of ends that has grown. -/
theorem Bo.grownE {S : Prop} {rm : Int} {B B' : Nat} {w0 w w' : World} {gb g : Nat} {m : Int} {vw va : Value} {gs gs' : List (List Nat)} {ws : List Nat} (h : Bo S rm B w0 w gb g m vw gs ws) (ha : OwnE w B' va gs') (hB : B ≤ B') (hg : w.grownBy w' va.ownBlock) : Bo S rm B w0 w' gb g m vw gs ws := by
  have hsz := h.bsz
  obtain ⟨safe, ⟨h1, v, h2, h3⟩, hsf⟩ := h.sto
  refine ⟨⟨safe, ⟨h1, v, blk_grown h2 hg (own_ne ha h2 (by decide)), own_grown_other h3 ha (by decide) hg⟩, hsf⟩, ⟨h.bk.ge, blk_grown h.bk.blk hg (own_ne ha h.bk.blk (by decide)), own_grown_other h.bk.row ha (by decide) hg⟩, h.good, h.codes, h.below.grown hg hsz (fun k hk => Nat.le_trans hB (own_base ha k hk)), h.room, h.m1, h.m400⟩
/-- A segment, opened where it begins. -/
theorem open_at (s : ByteArray) (hs : s.size ≤ 1000000) (p r1 : Int) (r2 : ByteArray) (r3 r4 : Int) (h : openR s p = (r1, r2, r3, r4)) (w : World) : Calls Try.prog 31 #[.string s, .int .i64 p] w fun e w' => e = .returned (.tuple #[.int .u64 r1, .string r2, .int .i64 r3, .int .i64 r4]) ∧ Below w.heap.size w w' := by
  have hf := open_f s p hs 30 (by decide)
  rw [h] at hf
  exact Go.Proofs.Ythlllcmffgdcmaa.QSegmentOpens.segment_Open.calls 30 _ _ _ _ _ _ w hf
end Go.Proofs.Ythlllcmffgdcmaa.Book

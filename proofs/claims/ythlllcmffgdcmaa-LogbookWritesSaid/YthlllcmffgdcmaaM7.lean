/- Texts of this claim, joined: Book10, Book11, Book12. -/
import Derived.Test.YthlllcmffgdcmaaM4
import Derived.Test.YthlllcmffgdcmaaRefPut0
import Derived.Test.YthlllcmffgdcmaaM3
import Derived.Deep.DeepCutAuto
import Derived.Deep.CutBlock
import Derived.Maps.AppendAt
namespace Go.Proofs.Ythlllcmffgdcmaa.BookRef
open Go.RowKit Go.Proofs.Ythlllcmffgdcmaa.PRecordReads Go.Proofs.Ythlllcmffgdcmaa.Reads Go.Proofs.Ythlllcmffgdcmaa.RefPut Go.Proofs.YthlllcmffgdcmaaW.PrintWords Go.Proofs.YthlllcmffgdcmaaW.PrintLast Go.Proofs.Ythlllcmffgdcmaa.LebPlain Go.Proofs.Ythlllcmffgdcmaa.LebWords Go.Proofs.Ythlllcmffgdcmaa.RecPlain Go.Proofs.Ythlllcmffgdcmaa.LebRecordReads Go.Proofs.Ythlllcmffgdcmaa.RecRecordReads
open Go.Proofs.Ythlllcmffgdcmaa.BookSome (recQ rd_recQ)

theorem refPut_f (n : Nat) : ∀ k, n < 18446744073709551616 → (putN n).length < k → shunterref01_Put.f k (n : Int) = some (putS n) := by
  induction n using putN.induct with
  | case1 n h =>
    intro k _ hk
    obtain ⟨k, rfl⟩ : ∃ m, k = m + 1 := ⟨k - 1, by omega⟩
    rw [shunterref01_Put.f, if_pos (show (n : Int) < 128 by omega), show (n : Int) % 256 = (n : Int) from by omega]
    unfold putS; rw [putN_small h]; rfl
  | case2 n h ih =>
    intro k hn hk
    obtain ⟨k, rfl⟩ : ∃ m, k = m + 1 := ⟨k - 1, by omega⟩
    rw [putN_big h] at hk
    simp only [List.length_cons] at hk
    have e1 : IntKind.u64.wrap (Int.tdiv (n : Int) 128) = ((n / 128 : Nat) : Int) := by
      rw [Int.tdiv_eq_ediv_of_nonneg (by omega), IntKind.wrap_u64]; omega
    have e2 : (((Int.tmod (n : Int) 128) % 256) + 128) % 256 = ((n % 128 + 128 : Nat) : Int) := by
      rw [Int.tmod_eq_emod_of_nonneg (by omega)]; omega
    rw [shunterref01_Put.f, if_neg (show ¬ (n : Int) < 128 by omega), e1, e2, ih k (by omega) (by omega)]
    have hl := putN_len (n / 128) (by omega)
    have hs : (strOfNums [((n % 128 + 128 : Nat) : Int)]).size = 1 := by rw [strOfNums_size]; rfl
    simp only [Option.bind_some]
    rw [if_pos (by rw [hs, putS_size]; omega)]
    congr 1
    apply bl_inj
    have h1 := bl_nums [n % 128 + 128] (fun b hb => by simp only [List.mem_singleton] at hb; omega)
    simp only [List.map_cons, List.map_nil, Int.ofNat_eq_natCast] at h1
    rw [bl_append, bl_putS, bl_putS, putN_big h, h1]; rfl

theorem join_eq (n : Nat) (h : n < 18446744073709551616) :
    IntKind.u64.wrap ((IntKind.u64.wrap ((IntKind.u64.wrap (4 * (recQ n).f1)) + (IntKind.u64.wrap (recQ n).f0))) - 1) = (n : Int) := by
  simp only [IntKind.wrap_u64, recQ]
  omega

theorem refbytes_l0 (ns : List Nat) (hn : ∀ n ∈ ns, n < 18446744073709551616) (hl : ns.length ≤ 1000000) : ∀ (d i k : Nat) (s : ByteArray), i + d = ns.length → d + 20 ≤ k → bl s = rowB (ns.take i) →
    ∃ r, shunterref02_Bytes.l0 k s (ns.map recQ) (ns.length : Int) (i : Int) = some r ∧ bl r = rowB ns := by
  intro d
  induction d with
  | zero =>
    intro i k s hi hk hs
    obtain ⟨k, rfl⟩ : ∃ m, k = m + 1 := ⟨k - 1, by omega⟩
    obtain rfl : i = ns.length := by omega
    rw [shunterref02_Bytes.l0, if_neg (show ¬ ((ns.length : Int) < (ns.length : Int)) by omega)]
    exact ⟨s, rfl, by rw [hs, List.take_length]⟩
  | succ d ih =>
    intro i k s hi hk hs
    obtain ⟨k, rfl⟩ : ∃ m, k = m + 1 := ⟨k - 1, by omega⟩
    have hlt : i < ns.length := by omega
    have hni := hn ns[i] (List.getElem_mem hlt)
    have hpre := rowB_len (ns.take i) (fun x hx => hn x (List.mem_of_mem_take hx))
    have htk : (ns.take i).length ≤ 1000000 := by rw [List.length_take]; omega
    have hl10 := putN_len ns[i] hni
    have hsz : s.size = (rowB (ns.take i)).length := by rw [← bl_length, hs]
    rw [shunterref02_Bytes.l0, if_pos (show ((i : Int) < (ns.length : Int)) by omega), if_pos (show (0 : Int) ≤ (i : Int) by omega), if_pos (show (i : Int) < ((ns.map recQ).length : Int) by rw [List.length_map]; omega),
      rd_recQ ns i hlt, join_eq _ hni, refPut_f _ k hni (by omega), Option.bind_some, if_pos (by rw [putS_size]; omega), show wrap64 ((i : Int) + 1) = ((i + 1 : Nat) : Int) from by unfold wrap64; omega]
    exact ih (i + 1) k _ (by omega) (by omega) (by rw [bl_append, bl_putS, hs, List.take_succ_eq_append_getElem hlt, rowB_append, rowB_one])

theorem refbytes_f (ns : List Nat) (hn : ∀ n ∈ ns, n < 18446744073709551616) (hl : ns.length ≤ 1000000) (k : Nat) (hk : ns.length + 20 ≤ k) :
    ∃ r, shunterref02_Bytes.f k (ns.map recQ) = some r ∧ bl r = rowB ns := by
  have := refbytes_l0 ns hn hl ns.length 0 k (⟨#[]⟩ : ByteArray) (by omega) (by omega) rfl
  unfold shunterref02_Bytes.f
  rw [List.length_map]
  exact this

end Go.Proofs.Ythlllcmffgdcmaa.BookRef
namespace Go.Proofs.Ythlllcmffgdcmaa.Book
open Go.RowKit Go.Proofs.YthlllcmffgdcmaaW.PrintWords Go.Proofs.YthlllcmffgdcmaaW.PrintLast Go.Proofs.YthlllcmffgdcmaaW.PrintMore Go.Proofs.Ythlllcmffgdcmaa.Stores Go.Proofs.Ythlllcmffgdcmaa.LebPlain Go.Proofs.Ythlllcmffgdcmaa.LebWords Go.Proofs.Ythlllcmffgdcmaa.RecPlain Go.Proofs.Ythlllcmffgdcmaa.SegPlain Go.Proofs.Ythlllcmffgdcmaa.SegLinkQSegmentOpens
open Go.Proofs.Ythlllcmffgdcmaa.PRecordReads (S31 k31 S36 k36)
open Go.Proofs.Ythlllcmffgdcmaa.BookSome (recQ)
attribute [local go_sem] max2_int min2_int max_two min_two
set_option linter.unusedVariables false
set_option linter.unusedSimpArgs false

/-- Groups as the document cuts them: of m each, the last of at most m. -/
def Full (m : Nat) : List (List Nat) → Prop
  | [] => True
  | g :: gs => 0 < g.length ∧ g.length ≤ m ∧ (gs ≠ [] → g.length = m) ∧ Full m gs
theorem full_flu (m : Nat) (hm : 1 ≤ m) (ws : List Nat) (hw : ws.length < m) : ∀ (gs : List (List Nat)), (∀ g ∈ gs, g.length = m) → Full m (fluG gs ws) := by
  intro gs
  unfold fluG
  induction gs with
  | nil =>
    intro _
    split
    · trivial
    · exact ⟨by omega, by omega, fun h => absurd rfl h, trivial⟩
  | cons g gs ih =>
    intro h
    have hg := h g (List.mem_cons_self ..)
    have h2 := ih fun x hx => h x (List.mem_cons_of_mem _ hx)
    split
    · rename_i h0
      rw [if_pos h0] at h2
      exact ⟨by omega, by omega, fun _ => hg, h2⟩
    · rename_i h0
      rw [if_neg h0] at h2
      exact ⟨by omega, by omega, fun _ => hg, h2⟩
theorem full_each (m : Nat) : ∀ (a : List (List Nat)), Full m a → ∀ g ∈ a, 0 < g.length ∧ g.length ≤ m
  | [], _, _, hg => by cases hg
  | x :: a, h, g, hg => by
    rcases List.mem_cons.1 hg with e | e
    · rw [e]; exact ⟨h.1, h.2.1⟩
    · exact full_each m a h.2.2.2 g e
theorem full_drop (m : Nat) : ∀ (a : List (List Nat)) {b : List (List Nat)}, Full m (a ++ b) → Full m b
  | [], _, h => h
  | _ :: a, _, h => full_drop m a h.2.2.2
theorem strB_snoc (a : List (List Nat)) (g : List Nat) : strB (logF 0 a) ++ segB a.length g = strB (logF 0 (a ++ [g])) := by
  apply bl_inj
  rw [bl_append, bl_strB _ (logF_lt a 0), bl_segB, bl_strB _ (logF_lt _ 0), logF_snoc]
theorem strB_logF_size (a : List (List Nat)) : (strB (logF 0 a)).size = (logF 0 a).length := by rw [← bl_length, bl_strB _ (logF_lt a 0)]
/-- The first group is what the document takes. -/
theorem full_min {m : Nat} {g : List Nat} {gs : List (List Nat)} (h : Full m (g :: gs)) : min m (g :: gs).flatten.length = g.length := by
  obtain ⟨h1, h2, h3, h4⟩ := h
  rw [List.flatten_cons, List.length_append]
  cases gs with
  | nil => simp; omega
  | cons a b => have := h3 (by simp); omega
theorem refbytes_calls (w : World) (A : Option Addr) (c : Nat) (ns : List Nat) (hn : ∀ n ∈ ns, n < 18446744073709551616) (hl : ns.length ≤ 1000) (h : Kd.C k36 w A ns.length (ns.map recQ)) (hc : ns.length ≤ c) : Calls Try.prog 22 #[.slice A ns.length c] w fun e w' => e = .returned (.string (bodyS ns)) ∧ Below w.heap.size w w' := by
  obtain ⟨r, hr, hb⟩ := BookRef.refbytes_f ns hn (by omega) 2000 (by omega)
  have e : r = bodyS ns := bl_inj (by rw [hb, bl_bodyS])
  subst e
  have := Go.Proofs.Ythlllcmffgdcmaa.RefPut.shunterref02_Bytes.calls 2000 A c (ns.map recQ) _ w (by rw [List.length_map]; exact h) (by rw [List.length_map]; exact hc) hr
  rw [List.length_map] at this
  exact this
theorem refframe_calls (w : World) (q : Nat) (hq : q < 18446744073709551616) (ns : List Nat) (hn : ∀ n ∈ ns, n < 18446744073709551616) (hl : ns.length ≤ 400) : Calls Try.prog 32 #[.int .u64 (q : Int), .string (bodyS ns)] w fun e w' => e = .returned (.string (segB q ns)) ∧ Below w.heap.size w w' := by
  obtain ⟨t, ht, hb⟩ := Go.Proofs.Ythlllcmffgdcmaa.Pure.refframe_f q hq (bodyS ns) (by have := body_le ns hn hl; omega) 60000 (Nat.le_refl _)
  have e : t = segB q ns := bl_inj (by rw [hb, bl_bodyS, bl_segB])
  subst e
  exact Go.Proofs.Ythlllcmffgdcmaa.QSegmentOpens.shunterref05_Frame.calls 60000 (q : Int) (bodyS ns) _ w ht

set_option maxHeartbeats 4000000 in
set_option maxRecDepth 100000 in
theorem text_calls (w : World) (m : Nat) (hm : 1 ≤ m) (hm4 : m ≤ 400) (gs : List (List Nat)) (hF : Full m gs) (hn : ∀ n ∈ gs.flatten, n < 18446744073709551616) (hl : gs.flatten.length ≤ 1000) (A : Option Addr) (N c : Nat) (hN : N = gs.flatten.length) (h : Kd.C k36 w A N (gs.flatten.map recQ)) (hc : N ≤ c) :
    Calls Try.prog 49 #[.slice A N c, .int .i64 (m : Int)] w fun e w' => e = .returned (.string (strB (logF 0 gs))) ∧ Below w.heap.size w w' := by
  have HF := Aside0.mk hF
  have HN := Aside0.mk hn
  have HK := Aside0.mk h
  have HC := Aside0.mk (And.intro hc (And.intro hN hl))
  have HM := Aside0.mk (And.intro hm hm4)
  clear hF hn h hc hN hl hm hm4
  go_enter Try.func49, Try.ntmps49
  go_wp2
  go_loopw [0, 5, 6] (fun v0 v5 v6 wr => ∃ (ga gb : List (List Nat)) (A' : Option Addr) (n' c' : Nat), gs = ga ++ gb ∧ v0 = .slice A' n' c' ∧ n' = gb.flatten.length ∧ n' ≤ c' ∧ v5 = .string (strB (logF 0 ga)) ∧ v6 = .int .i64 ga.length ∧ Kd.C k36 wr A' n' (gb.flatten.map recQ) ∧ Below w.heap.size w wr) (fun x _ _ _ => (match x with | .slice _ n _ => n | _ => 0))
  case atStart => exact ⟨[], gs, A, N, c, rfl, rfl, HC.out.2.1, HC.out.1, by first | rfl | (congr 1), rfl, HK.out, Below.refl _ _⟩
  case round =>
    obtain ⟨ga, gb, A', n', c', hgs, rfl, hn', hc', rfl, rfl, hk, hb⟩ := hrel
    cases gb with
    | nil =>
      simp only [List.flatten_nil, List.length_nil] at hn'
      subst hn'
      rw [List.append_nil] at hgs
      subst hgs
      have HB := Aside0.mk hb
      clear hk hb HK HN HF
      go_wp2
      go_ret
      exact ⟨rfl, HB.out⟩
    | cons g rest =>
      have hfd := full_drop m ga (hgs ▸ HF.out)
      have hmin := full_min hfd
      have hfl : ((g :: rest).flatten.map recQ).length = n' := by rw [List.length_map, hn']
      have hgl : g.length ≤ n' := by rw [hn', List.flatten_cons, List.length_append]; omega
      have hrl : n' - g.length = rest.flatten.length := by rw [hn', List.flatten_cons, List.length_append]; omega
      have hk' : Kd.C k36 wr A' ((g :: rest).flatten.map recQ).length ((g :: rest).flatten.map recQ) := by rw [hfl]; exact hk
      have etake : ((g :: rest).flatten.map recQ).take g.length = g.map recQ := by rw [List.flatten_cons, List.map_append, List.take_left' (by rw [List.length_map])]
      have edrop : ((g :: rest).flatten.map recQ).drop g.length = rest.flatten.map recQ := by rw [List.flatten_cons, List.map_append, List.drop_left' (by rw [List.length_map])]
      have ht := Kd.C_take hk' (m := g.length) (by rw [hfl]; exact hgl)
      have hd := Kd.C_drop hk' (m := g.length) (c := c') (by rw [hfl]; exact hgl) (by rw [hfl]; exact hc')
      rw [etake, List.length_map] at ht
      rw [edrop, List.length_map] at hd
      have hmem : ∀ x ∈ gs, ∀ n ∈ x, n < 18446744073709551616 := fun x hx n hxn => HN.out n (List.mem_flatten.2 ⟨x, hx, hxn⟩)
      have hg0 := hfd.1
      have hgm := hfd.2.1
      have hgn := hmem g (by rw [hgs]; simp)
      have hsz : gs.flatten.length = ga.flatten.length + n' := by rw [hgs, List.flatten_append, List.length_append, hn']
      have hmany : ga.length + (g :: rest).length ≤ 1000 := by
        have := many_le gs (fun x hx => ?_)
        · rw [hgs, List.length_append] at this; have := HC.out.2.2; rw [hgs] at this; omega
        · exact (full_each m gs HF.out x hx).1
      rw [← hn', ] at hmin
      have hsz2 := log_size ga 0 (fun x hx => ⟨(full_each m gs HF.out x (by rw [hgs]; exact List.mem_append_left _ hx)).1, by have := (full_each m gs HF.out x (by rw [hgs]; exact List.mem_append_left _ hx)).2; have := HM.out.2; omega, hmem x (by rw [hgs]; exact List.mem_append_left _ hx)⟩) (by omega)
      have HT := Aside0.mk (And.intro ht hd)
      have HGN := Aside0.mk hgn
      have HB := Aside0.mk hb
      have HM1 := HM.out.1
      have HM2 := HM.out.2
      have HGS := Aside0.mk hgs
      have HLN := Aside0.mk (And.intro hg0 (And.intro hrl hmany))
      have HNN := Aside0.mk (show gs.flatten.length ≤ 1000 ∧ n' ≤ 1000 from ⟨HC.out.2.2, by have := HC.out.2.2; omega⟩)
      have HSZ := Aside0.mk (show (strB (logF 0 ga)).size ≤ 36000 by rw [strB_logF_size]; have := HC.out.2.2; omega)
      have HSN := Aside0.mk (strB_snoc ga g)
      have HSG := Aside0.mk (show (segB ga.length g).size ≤ 10000 by have := frame_size ga.length (by omega) g (by omega) hgn; rw [segB_size]; omega)
      obtain ⟨gl, hgl'⟩ : ∃ gl, g.length = gl := ⟨_, rfl⟩
      obtain ⟨q, hq⟩ : ∃ q, ga.length = q := ⟨_, rfl⟩
      obtain ⟨y, hy⟩ : ∃ y, strB (logF 0 ga) = y := ⟨_, rfl⟩
      have HQ := Aside0.mk (show q < 1000 ∧ 0 < gl by rw [List.length_cons] at hmany; omega)
      rw [hgl'] at hmin hgl hgm
      have em1 : (if (n' : Int) < (m : Int) then (n' : Int) else (m : Int)) = (gl : Int) := by split <;> omega
      have em2 : (if (m : Int) < (n' : Int) then (m : Int) else (n' : Int)) = (gl : Int) := by split <;> omega
      have em3 : (if n' < m then (n' : Int) else (m : Int)) = (gl : Int) := by split <;> omega
      have em4 : (if m < n' then (m : Int) else (n' : Int)) = (gl : Int) := by split <;> omega
      have b1 : (0 : Int) < (n' : Int) := by have := HQ.out.2; omega
      have b2 : (0 : Int) ≤ (gl : Int) := by omega
      have b3 : (gl : Int) ≤ (c' : Int) := by omega
      have b4 : (gl : Int) ≤ (n' : Int) := by omega
      have HGL := Aside0.mk (And.intro hgl hgl')
      have HC2 := Aside0.mk hc'
      have HQQ := Aside0.mk hq
      have HYY := Aside0.mk hy
      rw [hq, hy]
      clear hk hb hk' etake edrop ht hd hgs hfd hmin hfl hgl hrl hmem hg0 hgn hsz hmany hsz2 hgl' hq hy hn' hc'
      obtain ⟨sg, hsg⟩ : ∃ sg, segB q g = sg := ⟨_, rfl⟩
      have HSGE := Aside0.mk hsg
      have hys : y.size + sg.size ≤ 9223372036854775807 := by have h1 := HSZ.out; have h2 := HSG.out; rw [HYY.out] at h1; rw [HQQ.out, hsg] at h2; omega
      have eu : IntKind.u64.wrap (q : Int) = (q : Int) := by rw [IntKind.wrap_u64]; have := HQ.out.1; omega
      have ewq : wrap64 ((q : Int) + 1) = (q : Int) + 1 := by unfold wrap64; have := HQ.out.1; omega
      have hby := refbytes_calls wr A' c' g HGN.out (by have := HGL.out; have := HNN.out; omega) HT.out.1 (by have := HGL.out; omega)
      rw [HGL.out.2] at hby
      have hfy := fun w => refframe_calls w q (Nat.lt_of_lt_of_le HQ.out.1 (by decide)) g HGN.out (by rw [HGL.out.2]; exact Nat.le_trans hgm HM2)
      rw [hsg] at hfy
      obtain ⟨bd, hbd⟩ : ∃ bd, bodyS g = bd := ⟨_, rfl⟩
      rw [hbd] at hby hfy
      have HBY := Aside0.mk hby
      have HFY := Aside0.mk hfy
      clear hby hfy hbd
      clear hsg
      go_wp2_with (first
        | (go_at_call 22; (with_reducible refine HBY.out.mono ?_); rintro e w1 ⟨rfl, hb⟩; have HB1 := Aside0.mk (below_then HB.out HB.out.size hb); have HT1 := Aside0.mk (Kd.C_below HT.out.2 hb); clear hb)
        | (go_at_call 32; (with_reducible refine (HFY.out _).mono ?_); rintro e w2 ⟨rfl, hb⟩; have HB2 := Aside0.mk (below_then HB1.out HB1.out.size hb); have HT2 := Aside0.mk (Kd.C_below HT1.out hb); clear hb))
      refine ⟨⟨ga ++ [g], rest, _, _, _, by rw [HGS.out, List.append_assoc]; rfl, rfl, ?_, ?_, ?_, ?_, ?_, HB2.out⟩, ?_⟩
      · rw [← HLN.out.2.1, HGL.out.2]
      · have := HC2.out
        omega
      · rw [← HSN.out, HYY.out, HQQ.out, HSGE.out]
      · rw [ewq, List.length_append, HQQ.out]; rfl
      · have h := HT2.out
        rw [← HLN.out.2.1, HGL.out.2] at h
        exact h
      · show n' - gl < n'
        have := HQ.out.2
        have := HGL.out.1
        omega
end Go.Proofs.Ythlllcmffgdcmaa.Book

namespace Go.Proofs.Ythlllcmffgdcmaa.Book
open Go.RowKit Go.Proofs.YthlllcmffgdcmaaW.PrintWords Go.Proofs.YthlllcmffgdcmaaW.PrintLast Go.Proofs.YthlllcmffgdcmaaW.PrintMore Go.Proofs.Ythlllcmffgdcmaa.Stores Go.Proofs.Ythlllcmffgdcmaa.LebPlain Go.Proofs.Ythlllcmffgdcmaa.LebWords Go.Proofs.Ythlllcmffgdcmaa.RecPlain Go.Proofs.Ythlllcmffgdcmaa.SegPlain Go.Proofs.Ythlllcmffgdcmaa.SegLinkQSegmentOpens
open Go.Proofs.Ythlllcmffgdcmaa.PRecordReads (S31 k31 S36 k36)
open Go.Proofs.Ythlllcmffgdcmaa.RecRecordReads (recP)
open Go.Proofs.Ythlllcmffgdcmaa.BookSome (recQ told_f)
set_option linter.unusedVariables false
set_option linter.unusedSimpArgs false

section
variable {P : Program}
theorem wp_append_row {o : Oper} {a : Act} {K : Act → World → Prop} {Q : Exit → Act → World → Prop} (W : World) (s x : Operand) (t : TypeId)
    (ho : o.op = .call { callee := .builtin .append, args := #[s, x], argTypes := #[t, t] })
    (base : Nat) (e : TypeId) (i : TypeInfo) (z : Value) (size bytes : Nat) (ht : P.underlying t = some (.slice e)) (hi : P.info? e = some i) (hz : i.zero = some z)
    (hsize : i.size = size) (hby : i.bytes = bytes) (hzs : z.cells.size = size) (hsz : 0 < size)
    (v : Value) (n : Nat) (xs : List Value) (hs : a.eval s = v) (hown : W.ownsRow base e size v n xs)
    (b2 m : Nat) (u : Value) (ys : List Value) (hx : a.eval x = u) (hrow : W.ownsRow b2 e size u m ys) (h1 : ∀ y ∈ ys, y.oneCell' = true)
    (h63 : n + m ≤ maxLen) (hbytes : (n + m) * bytes ≤ 140737488355328) (hbase : base ≤ W.heap.size)
    (h : ∀ A c w1, w1.ownsRow base e size (.slice A (n + m) c) (n + m) (xs ++ ys) → W.grownBy w1 v.ownBlock → K (a.put o.dst (.slice A (n + m) c)) w1) : Oper.wp P o a W K Q := by
  have hrun : ∃ v1 w1, (Builtin.append_ #[t, t] o.type #[v, u]).run P W = .ok v1 w1 ∧ w1.ownsRow base e size v1 (n + m) (xs ++ ys) ∧ W.grownBy w1 v.ownBlock := by
    rcases hrow.2 with ⟨rfl, rfl⟩ | ⟨g, cap, cur, rfl, hb, hh, hc, hm, hcs, hct⟩
    · have hx0 : ys = [] := List.eq_nil_of_length_eq_zero (by simpa using hrow.1)
      subst hx0
      refine ⟨v, W, ?_, by simpa using hown, World.grownBy.refl W _⟩
      rcases hown.2 with ⟨rfl, rfl⟩ | ⟨g, cap, cur, rfl, hb, hh, hc, hm, hcs, hct⟩
      · simp [Builtin.append_, run_underlying ht, sizeOf, typeInfo, hi, Builtin.lenOf, Builtin.firstCells, storeCells]
      · simp [Builtin.append_, run_underlying ht, sizeOf, typeInfo, hi, Builtin.lenOf, Builtin.firstCells, storeCells, hc, hm]
    · have hnews : ∀ j y, ys[j]? = some y → W.cell? ((⟨g, 0, none⟩ : Addr).add j) = some y := fun j y hj => by
        have hadd : (⟨g, 0, none⟩ : Addr).add j = ⟨g, j, none⟩ := by unfold Addr.add; split <;> simp_all
        rw [hadd, cell_of_row W g j cur e (0, 0) hh]
        have hjl : j < m * size := by
          rcases Nat.lt_or_ge j (m * size) with h | h
          · exact h
          · rw [List.getElem?_eq_none (by rw [hrow.1]; exact h)] at hj; cases hj
        rw [← hct, List.getElem?_take_of_lt hjl, Array.getElem?_toList] at hj
        exact hj
      obtain ⟨v1, w1, hr, h2, h3, _⟩ := run_append_own_at (P := P) W base t o.type e i z size bytes ht hi hz hsize hby hzs hsz _ n xs hown ⟨g, 0, none⟩ m cap ys hrow.1 hnews h1 h63 hbytes hbase
      exact ⟨v1, w1, hr, h2, h3⟩
  obtain ⟨v1, w1, hr, hown1, hg⟩ := hrun
  obtain ⟨A, c, rfl⟩ := own_slice hown1
  unfold Oper.wp execOp
  simp only [ho, resolve, invoke, builtin, Sem.run_bind, Sem.run_pure, Result.andThen_ok, List.map_toArray, List.map_cons, List.map_nil, hs, hx, hr]
  exact h A c w1 hown1 hg
theorem step_append_row {ops : Array Oper} {o : Oper} {a : Act} {K : Act → World → Prop} {Q : Exit → Act → World → Prop} {E : Prop} {W : World} (hgd : o.guard = none) (s x : Operand) (t : TypeId)
    (ho : o.op = .call { callee := .builtin .append, args := #[s, x], argTypes := #[t, t] })
    (base : Nat) (e : TypeId) (i : TypeInfo) (z : Value) (size bytes : Nat) (ht : P.underlying t = some (.slice e)) (hi : P.info? e = some i) (hz : i.zero = some z)
    (hsize : i.size = size) (hby : i.bytes = bytes) (hzs : z.cells.size = size) (hsz : 0 < size)
    (v : Value) (n : Nat) (xs : List Value) (hs : a.eval s = v) (hown : W.ownsRow base e size v n xs)
    (b2 m : Nat) (u : Value) (ys : List Value) (hx : a.eval x = u) (hrow : W.ownsRow b2 e size u m ys) (h1 : ∀ y ∈ ys, y.oneCell' = true)
    (h63 : n + m ≤ maxLen) (hbytes : (n + m) * bytes ≤ 140737488355328) (hbase : base ≤ W.heap.size)
    (h : ∀ A c w1, w1.ownsRow base e size (.slice A (n + m) c) (n + m) (xs ++ ys) → W.grownBy w1 v.ownBlock → K (a.put o.dst (.slice A (n + m) c)) w1) :
    if Region.wanted o (yielded ops a.tmps) = true then Oper.wp P o a W K Q else E := by
  have hw : Region.wanted o (yielded ops a.tmps) = true := by simp [Region.wanted, hgd]
  rw [if_pos hw]
  exact wp_append_row W s x t ho base e i z size bytes ht hi hz hsize hby hzs hsz v n xs hs hown b2 m u ys hx hrow h1 h63 hbytes hbase h
end
variable {rm : Int}
theorem safe_c (B g : Nat) (xs : List Int) (safe : Int) (w : World) (h : Sto rm B w g xs safe) : Calls Try.prog 50 #[.pointer (some ⟨g, 0, none⟩)] w fun e w' => e = .returned (.int .i64 safe) ∧ w = w' := by
  obtain ⟨h1, v, h2, h3⟩ := h
  have c1 : w.cell? ⟨g, 1, none⟩ = some (.int .i64 safe) := (blk_cell h2 1).trans rfl
  clear h1 h2 h3
  go_enter Try.func50, Try.ntmps50
  go_wp2
  go_ret
  exact ⟨rfl, rfl⟩
/-- A part of a row told. -/
theorem told_calls' (w : World) (A : Option Addr) (c : Nat) (ns : List Nat) (hk : Kd.C k31 w A ns.length (ns.map recP)) (hc : ns.length ≤ c) (hl : ns.length ≤ 1000) : Calls Try.prog 21 #[.slice A ns.length c] w fun e w' => ∃ v', e = .returned v' ∧ OwnA w' w.heap.size v' ns ∧ Below w.heap.size w w' := by
  have := Go.Proofs.Ythlllcmffgdcmaa.Some.shunterlaw02_Told.calls (ns.length + 1) A c (ns.map recP) _ w (by rw [List.length_map]; exact hk) (by rw [List.length_map]; exact hc) (told_f ns (by omega) _ (by omega))
  rw [List.length_map] at this
  exact this.mono fun e w' ⟨v', e1, e2, e3⟩ => ⟨v', e1, ownA_of_kd e2, e3⟩
/-- A row's own, cut to its first. -/
theorem Own.cut {w : World} {B : Nat} {A : Option Addr} {n c : Nat} {ns : List Nat} (h : Own w B (.slice A n c) ns) (m : Nat) (hm : m ≤ n) : Own w B (.slice A m c) (ns.take m) := by
  have hlen : ns.length = n := by obtain ⟨A', c', e⟩ := h.slice; injection e with _ e _; exact e.symm
  have hml : (ns.take m).length = m := by rw [List.length_take]; omega
  have htk : (rcs ns).take (m * 2) = rcs (ns.take m) := by
    conv => lhs; rw [← List.take_append_drop m ns]
    rw [rcs_append, List.take_left' (by rw [rcs_len, hml])]
  obtain ⟨h1, h2⟩ := h
  refine ⟨by rw [rcs_len], ?_⟩
  rw [hml]
  rcases h2 with ⟨h2, h3⟩ | ⟨g, cap, cur, hv, hb, hh, hc, hmx, hcs, hct⟩
  · injection h2 with e1 e2 e3
    subst e1; subst e3
    obtain rfl : m = 0 := by omega
    exact .inl ⟨rfl, rfl⟩
  · injection hv with e1 e2 e3
    subst e1; subst e3
    refine .inr ⟨g, _, cur, rfl, hb, hh, by omega, hmx, hcs, ?_⟩
    rw [← htk, ← hct, List.take_take, hlen]
    congr 1
    omega
theorem open_fresh {B g : Nat} {w0 : World} (z : Int) (W : World) (h : Sto rm B W g [] 0) (hb : Below B w0 W) : Calls Try.prog 40 #[.pointer (some ⟨g, 0, none⟩), .int .i64 z] W fun e w' => ∃ gb A c, e = .returned (.tuple #[.pointer (some ⟨gb, 0, none⟩), .slice A 0 c, .int .i64 0]) ∧ Bo True rm B w0 w' gb g (most z) (.slice none 0 0) [] [] ∧ Tm W w' ∧ W.heap.size ≤ w'.heap.size :=
  (open_bo (rm := rm) (gs := []) (w0 := w0) [] 0 z h Good.nil (by simp) openL_none (by simp) (fun b hb => by cases hb) hb (S := True) (fun h => ⟨rfl, rfl⟩)).mono fun e w' ⟨gb, v, h1, h2, h3, h4, _, h5⟩ => by
    obtain ⟨A, c, rfl⟩ := h3.slice
    exact ⟨gb, A, c, h1, h2, h4, h5⟩
theorem Own.tm {w w' : World} {B : Nat} {v : Value} {ns : List Nat} (h : Own w B v ns) (ht : Tm w w') : Own w' B v ns := by
  obtain ⟨h1, h2⟩ := h
  refine ⟨h1, ?_⟩
  rcases h2 with h2 | ⟨g, cap, cur, rfl, hb, hh, r⟩
  · exact .inl h2
  · exact .inr ⟨g, cap, cur, rfl, hb, ht g _ _ hh (by decide) (by decide), r⟩
theorem wait_none (B gb g : Nat) (m q : Int) (vw : Value) (sure : Int) (w : World) (h : Bk B w gb g m q vw [] sure) : Calls Try.prog 42 #[.pointer (some ⟨gb, 0, none⟩)] w fun e w' => e = .returned (.int .i64 0) ∧ w = w' := waiting_calls B gb g m q vw [] sure w h
theorem bytes_y (B g : Nat) (l : List Nat) (y : ByteArray) (hy : strB l = y) (safe : Int) (w : World) (h : Sto rm B w g (l.map Int.ofNat) safe) : Calls Try.prog 47 #[.pointer (some ⟨g, 0, none⟩)] w fun e w' => e = .returned (.string y) ∧ w = w' := by
  subst hy
  exact bytes_c B g _ safe w h
theorem told_n (w : World) (B : Nat) (v : Value) (ns : List Nat) (n : Nat) (hn : ns.length = n) (h : Own w B v ns) (hl : n ≤ 1000) : Calls Try.prog 21 #[v] w fun e w' => ∃ A c, e = .returned (.slice A n c) ∧ Kd.C k36 w' A n (ns.map recQ) ∧ n ≤ c ∧ Below w.heap.size w w' :=
  (told_calls w B v ns h (by omega)).mono fun e w' ⟨v', h1, h2, h3⟩ => by
    obtain ⟨A, c, rfl, h4, h5⟩ := h2.reads
    rw [List.length_map] at h5
    subst hn
    exact ⟨A, c, h1, h5, h4, h3⟩
end Go.Proofs.Ythlllcmffgdcmaa.Book

namespace Go.Proofs.Ythlllcmffgdcmaa.Book
open Go.RowKit Go.Proofs.YthlllcmffgdcmaaW.PrintWords Go.Proofs.YthlllcmffgdcmaaW.PrintLast Go.Proofs.YthlllcmffgdcmaaW.PrintMore Go.Proofs.Ythlllcmffgdcmaa.Stores Go.Proofs.Ythlllcmffgdcmaa.LebPlain Go.Proofs.Ythlllcmffgdcmaa.LebWords Go.Proofs.Ythlllcmffgdcmaa.RecPlain Go.Proofs.Ythlllcmffgdcmaa.SegPlain Go.Proofs.Ythlllcmffgdcmaa.SegLinkQSegmentOpens
open Go.Proofs.Ythlllcmffgdcmaa.PRecordReads (S31 k31 S36 k36)
open Go.Proofs.Ythlllcmffgdcmaa.RecRecordReads (recP)
open Go.Proofs.Ythlllcmffgdcmaa.BookSome (recQ)
attribute [local go_sem] max2_int min2_int max_two min_two
set_option linter.unusedVariables false
set_option linter.unusedSimpArgs false

theorem count_up (k n : Nat) (h : k < n) : n - (intOf (Value.int .i64 ((k + 1 : Nat) : Int))).toNat < n - (intOf (Value.int .i64 (k : Int))).toNat := by
  show n - (k + 1) < n - k
  omega

set_option maxHeartbeats 4000000 in
set_option maxRecDepth 100000 in
theorem writes_law (A A2 : Option Addr) (c c2 : Nat) (l : List S36) (z : Int) (bs : List Bool) (w : World) (hK : Kd.C k36 w A l.length l) (hc : l.length ≤ c) (hF : ReadsOf Value.bool false w A2 bs.length bs) :
    Calls Try.prog 13 #[.slice A l.length c, .int .i64 z, .slice A2 bs.length c2] w fun e w' => e = .returned (.bool true) ∧ Below w.heap.size w w' := by
  have HK := Aside0.mk hK
  have HF := Aside0.mk hF
  have HC := Aside0.mk hc
  have hlm := hK.2.1
  obtain ⟨n40, hn40⟩ : ∃ n : Nat, (if l.length < 40 then l.length else 40) = n := ⟨_, rfl⟩
  have hn1 : n40 ≤ l.length := by split at hn40 <;> omega
  have em1 : (if (l.length : Int) < 40 then (l.length : Int) else 40) = (n40 : Int) := by split at hn40 <;> split <;> omega
  have em2 : (if (40 : Int) < (l.length : Int) then (40 : Int) else (l.length : Int)) = (n40 : Int) := by split at hn40 <;> split <;> omega
  have b0 : (0 : Int) ≤ (n40 : Int) := by omega
  have b1 : (n40 : Int) ≤ (l.length : Int) := by omega
  have hd := Kd.C_drop hK (m := n40) hn1 hc
  rw [List.length_drop, show k36.sz = 2 from rfl] at hd
  have HD := Aside0.mk hd
  have HS1 := Aside0.mk (fun (w' : World) (h : Below w.heap.size w w') => some_calls w' A c l (Kd.C_below hK h) hc)
  have HS2 := Aside0.mk (fun (w' : World) (h : Below w.heap.size w w') => some_calls w' _ (c - n40) (l.drop n40) (by rw [List.length_drop]; exact Kd.C_below hd h) (by rw [List.length_drop]; omega))
  rw [List.length_drop] at HS2
  clear hn40 hn1 hK hF hc hd
  generalize l.length = N at *
  go_enter Try.func13, Try.ntmps13
  go_upto_region 3 with (first
    | (go_at_call 38; (with_reducible refine (awake_calls w).mono ?_); rintro e w1 ⟨rfl, hb⟩; have B1 := Aside0.mk hb; clear hb))
  go_cut [7] (fun v7 wx => ∃ ms : List Nat, Own wx w.heap.size v7 ms ∧ ms.length ≤ 80 ∧ (∀ n ∈ ms, n < 18446744073709551616) ∧ Below w.heap.size w wx)
  case first =>
    obtain ⟨j0, hj0, hz0, hz1, hz2⟩ := info_parts info31
    have HJ := Aside0.mk (And.intro hj0 (And.intro hz0 (And.intro hz1 hz2)))
    clear hj0 hz0 hz1 hz2
    go_region_law (first
      | (refine step_append_row (by rfl) (.tmp 23) (.tmp 29) 24 (by rfl) w.heap.size 31 j0 _ 2 16 Try.underlying24 HJ.out.1 HJ.out.2.1 HJ.out.2.2.1 HJ.out.2.2.2 rfl (by omega) _ ms1.length (rcs ms1) (by simp [Act.eval, Act.put]) HR1.out w.heap.size ms2.length _ (rcs ms2) (by simp [Act.eval, Act.put]) HR2.out (rcs_one ms2) (by have h1 := HL1.out.1; have h2 := HL2.out.1; unfold maxLen; omega) (by have h1 := HL1.out.1; have h2 := HL2.out.1; omega) HBX.out.size ?_; intro A4 c4 w4 hown hgrow; have HO4 := Aside0.mk hown; have HB4 := Aside0.mk (HBX.out.grown hgrow HBX.out.size (own_base HR1.out)); clear hown hgrow)
      | (go_simp; go_at_call 16; (with_reducible refine (HS1.out _ HBX.out).mono ?_); rintro e wB ⟨v1, ms1, rfl, h1, h2, h3, h4⟩; obtain ⟨A1, c1, rfl⟩ := h1.slice; have HR1 := Aside0.mk (own_weaken h1 HBX.out.size); have HR2 := Aside0.mk (pw_own_below HR2.out h4); have HL1 := Aside0.mk (And.intro h2 h3); have HBX := Aside0.mk (below_then HBX.out HBX.out.size h4); clear h1 h2 h3 h4)
      | (go_simp; go_at_call 16; (refine (HS2.out _ HBX.out).mono ?_); rintro e wB ⟨v2, ms2, rfl, h1, h2, h3, h4⟩; obtain ⟨A3, c3, rfl⟩ := h1.slice; have HR2 := Aside0.mk (own_weaken h1 HBX.out.size); have HR1 := Aside0.mk (pw_own_below HR1.out h4); have HL2 := Aside0.mk (And.intro h2 h3); have HBX := Aside0.mk (below_then HBX.out HBX.out.size h4); clear h1 h2 h3 h4)
      | (go_simp; go_at_call 16; (with_reducible refine (HS1.out _ B1.out.drew).mono ?_); rintro e wA ⟨v1, ms1, rfl, h1, h2, h3, h4⟩; obtain ⟨A1, c1, rfl⟩ := h1.slice; have HR1 := Aside0.mk (own_weaken h1 B1.out.drew.size); have HL1 := Aside0.mk (And.intro h2 h3); have HBX := Aside0.mk (below_then B1.out.drew B1.out.drew.size h4); clear h1 h2 h3 h4)
      | (go_simp; go_at_call 16; (refine (HS2.out _ B1.out.drew).mono ?_); rintro e wA ⟨v2, ms2, rfl, h1, h2, h3, h4⟩; obtain ⟨A3, c3, rfl⟩ := h1.slice; have HR2 := Aside0.mk (own_weaken h1 B1.out.drew.size); have HL2 := Aside0.mk (And.intro h2 h3); have HBX := Aside0.mk (below_then B1.out.drew B1.out.drew.size h4); clear h1 h2 h3 h4))
    all_goals
      generalize (if c = n40 then A else Option.map (fun x => x.add (n40 * 2)) A) = AX
      go_wp2
      go_meet
      refine ⟨ms1 ++ ms2, ?_, by rw [List.length_append]; have h1 := HL1.out.1; have h2 := HL2.out.1; omega, fun n hn => ?_, HB4.out⟩
      · have h := HO4.out
        unfold Own
        rw [List.length_append, rcs_append]
        exact h
      · rcases List.mem_append.1 hn with h | h
        · exact HL1.out.2 n h
        · exact HL2.out.2 n h
  case rest =>
    clear HS1 HS2 em1 em2 b0 b1 HD HK HC hlm
    obtain ⟨ms0, hm0, hl0, hc0, hb0⟩ := hcut
    obtain ⟨A5, c5, hv5⟩ := hm0.slice
    subst hv5
    obtain ⟨N0, hN0⟩ : ∃ N0, ms0.length = N0 := ⟨_, rfl⟩
    obtain ⟨N6, hN6⟩ : ∃ n : Nat, (if N0 < 60 then N0 else 60) = n := ⟨_, rfl⟩
    have hle : N6 ≤ N0 ∧ N6 ≤ 60 := by split at hN6 <;> omega
    have em1 : (if (N0 : Int) < 60 then (N0 : Int) else 60) = (N6 : Int) := by split at hN6 <;> split <;> omega
    have em2 : (if (60 : Int) < (N0 : Int) then (60 : Int) else (N0 : Int)) = (N6 : Int) := by split at hN6 <;> split <;> omega
    have hcap : N0 ≤ c5 := by
      have := hm0.reads
      obtain ⟨A', c', e, h1, h2⟩ := this
      injection e with _ _ e
      omega
    rw [hN0] at hm0 ⊢
    have hms := Own.cut hm0 N6 hle.1
    obtain ⟨ms, hms'⟩ : ∃ ms, ms0.take N6 = ms := ⟨_, rfl⟩
    have hml : ms.length = N6 := by rw [← hms', List.length_take]; omega
    have hmc : ∀ n ∈ ms, n < 18446744073709551616 := fun n hn => by rw [← hms'] at hn; exact hc0 n (List.mem_of_mem_take hn)
    rw [hms'] at hms
    have b0 : (0 : Int) ≤ (N6 : Int) := by omega
    have b1 : (N6 : Int) ≤ (c5 : Int) := by omega
    have HMS := Aside0.mk hms
    have HML := Aside0.mk (And.intro hml hmc)
    have HB := Aside0.mk hb0
    have HN6 := Aside0.mk hle.2
    clear hms hms' hml hmc hb0 hm0 hl0 hc0 hN0 hN6 hle hcap
    have hmo := most_le z
    obtain ⟨mo, hmo2⟩ : ∃ mo, most z = mo := ⟨_, rfl⟩
    have emo2 : (if 400 < (if z < 1 then 1 else z) then 400 else (if z < 1 then 1 else z)) = mo := by rw [← hmo2]; unfold most; split <;> split <;> omega
    have emo : (if (if z < 1 then 1 else z) < 400 then (if z < 1 then 1 else z) else 400) = mo := hmo2
    go_upto_block 0 with (first
      | (go_at_call 39; (with_reducible refine (new_calls w.heap.size 1048576 (by omega) _ HB.out.size).mono ?_); rintro e w2 ⟨g, rfl, hs, hb⟩; have HS2 := Aside0.mk (show Sto 1048576 w.heap.size w2 g [] 0 from hs); have HB2 := Aside0.mk (below_then HB.out HB.out.size hb); have HMS2 := Aside0.mk (HMS.out.below hb); clear hs hb)
      | (go_at_call 40; (with_reducible refine (open_fresh z w2 HS2.out HB2.out).mono ?_); rintro e w3 ⟨gb, A6, c6, rfl, hbo, ht, hsz⟩; have HBO := Aside0.mk hbo; have HMS3 := Aside0.mk (HMS2.out.tm ht); clear hbo ht hsz))
    have hbo0 := HBO.out
    rw [hmo2] at hbo0 hmo
    have HBO0 := Aside0.mk hbo0
    have HMO := Aside0.mk hmo
    clear hbo0 hmo emo emo2 hmo2 em1 em2 b0 b1 HBO HS2 HB2 HMS HMS2
    generalize (if z < 1 then (1 : Int) else z) = zz
    go_cut [13] (fun v13 wx => ∃ (vw : Value) (gs : List (List Nat)) (ws : List Nat), Bo True 1048576 w.heap.size w wx gb g mo vw gs ws ∧ gs.flatten ++ ws = ms ∧ Own wx w.heap.size (.slice A5 N6 c5) ms ∧ Apart (.slice A5 N6 c5) vw ∧ (bs = [] → ∀ x ∈ gs, (x.length : Int) = mo))
    case first =>
      go_wp2
      go_loopw [13, 14, 55] (fun v13 v14 v55 wr => ∃ (k : Nat) (vw : Value) (gs : List (List Nat)) (ws : List Nat), k ≤ N6 ∧ v55 = .int .i64 k ∧ v13 = .int .i64 gs.flatten.length ∧ v14 = .int .i64 ws.length ∧ Bo True 1048576 w.heap.size w wr gb g mo vw gs ws ∧ gs.flatten ++ ws = ms.take k ∧ Own wr w.heap.size (.slice A5 N6 c5) ms ∧ Apart (.slice A5 N6 c5) vw ∧ (bs = [] → ∀ x ∈ gs, (x.length : Int) = mo)) (fun _ _ x _ => 60 - (intOf x).toNat)
      case atStart => exact ⟨0, _, [], [], Nat.zero_le _, rfl, rfl, rfl, HBO0.out, by simp, HMS3.out, Apart.nil _ _ _, fun _ x hx => by cases hx⟩
      case round =>
        clear HBO0 HMS3
        obtain ⟨k, vw, gs, ws, hk, rfl, rfl, rfl, hbo, hfl, hm, hap, hfull⟩ := hrel
        have HBO := Aside0.mk hbo
        have HFL := Aside0.mk hfl
        have HM := Aside0.mk hm
        have HAP := Aside0.mk hap
        have HFU := Aside0.mk hfull
        obtain ⟨n13, h13⟩ : ∃ n, gs.flatten.length = n := ⟨_, rfl⟩
        obtain ⟨n14, h14⟩ : ∃ n, ws.length = n := ⟨_, rfl⟩
        have hsum : n13 + n14 = k := by rw [← h13, ← h14, ← List.length_append, hfl, List.length_take, HML.out.1]; omega
        have HSU := Aside0.mk (And.intro hsum (And.intro h13 h14))
        rw [h13, h14]
        clear hbo hfl hm hap hfull h13 h14 hsum
        by_cases hlt : k < N6
        case neg =>
          have q4 : decide ((k : Int) < (N6 : Int)) = false := decide_eq_false (by omega)
          obtain rfl : k = N6 := by omega
          go_wp2
          go_meet
          exact ⟨vw, gs, ws, HBO.out, by rw [HFL.out, ← HML.out.1, List.take_length], HM.out, HAP.out, HFU.out⟩
        case pos =>
          have q4 : decide ((k : Int) < (N6 : Int)) = true := decide_eq_true (by omega)
          have hkm : k < ms.length := by rw [HML.out.1]; exact hlt
          obtain ⟨gr, cr, hgr, _⟩ := HM.out.news (by omega)
          injection hgr with hgr el ec
          subst hgr
          clear el ec
          obtain ⟨m0, m1⟩ := HM.out.at_ hkm
          have hr : ms[k] < 18446744073709551616 := HML.out.2 _ (List.getElem_mem hkm)
          have htk : ms.take (k + 1) = ms.take k ++ [ms[k]] := List.take_succ_eq_append_getElem hkm
          obtain ⟨r, hrr⟩ : ∃ r, ms[k] = r := ⟨_, rfl⟩
          rw [hrr] at m0 m1 hr htk
          have hw0 := below_alloc (Below.refl wr.heap.size wr) (.cells #[.int .i64 ((r % 4 + 1 : Nat) : Int), .int .u64 ((r / 4 : Nat) : Int)] 31)
          have had := add_bo r (HBO.out.on hw0) hr (by have h1 := HSU.out; have h2 := HN6.out; unfold tot; omega) (by have h1 := HSU.out; have h2 := HN6.out; unfold tot; omega) (by omega)
          obtain ⟨kd, hkd⟩ : ∃ kd : Int, ((r % 4 + 1 : Nat) : Int) = kd := ⟨_, rfl⟩
          obtain ⟨nm, hnm⟩ : ∃ nm : Int, ((r / 4 : Nat) : Int) = nm := ⟨_, rfl⟩
          rw [hkd] at m0 hw0 had
          rw [hnm] at m1 hw0 had
          have HTK := Aside0.mk htk
          have HAD := Aside0.mk had
          have HB7 := Aside0.mk (HBO.out.on hw0)
          have HM7 := Aside0.mk (HM.out.below hw0)
          have b6 : (0 : Int) ≤ (k : Int) := by omega
          have b7 : (k : Int) < (N6 : Int) := by omega
          have HK := Aside0.mk (And.intro hlt hkm)
          clear hrr htk hkd hnm hr had hw0 HBO HM
          go_upto_region 14 with (fail)
          obtain ⟨zb, hzb⟩ : ∃ zb, wr.heap.size = zb := ⟨_, rfl⟩
          have HZ7 := Aside0.mk (show (wr.alloc (.cells #[.int .i64 kd, .int .u64 nm] 31)).heap[zb]? = some (.cells #[.int .i64 kd, .int .u64 nm] 31 (0, 0)) by rw [← hzb]; exact blk_new wr _)
          rw [hzb]
          clear hzb m0 m1
          change Code.wp _ _ _ _ (wr.alloc (.cells #[.int .i64 kd, .int .u64 nm] 31))
          generalize wr.alloc (.cells #[.int .i64 kd, .int .u64 nm] 31) = w7 at HAD HB7 HM7 HZ7 ⊢
          have z0 : w7.cell? ⟨zb, 0, none⟩ = some (.int .i64 kd) := (blk_cell HZ7.out 0).trans rfl
          have z1 : w7.cell? ⟨zb, 1, none⟩ = some (.int .u64 nm) := (blk_cell HZ7.out 1).trans rfl
          clear HZ7
          go_upto_region 16 with (go_at_call 43; (with_reducible refine HAD.out.mono ?_); rintro e w8 ⟨rfl, vw8, hl⟩; have HL := Aside0.mk hl; have HM8 := Aside0.mk (HM7.out.fr hl.fr HB7.out.bk.blk HAP.out); have HAP8 := Aside0.mk (HAP.out.moved HM7.out hl.moved); clear hl z0 z1)
          obtain ⟨i14, hi14⟩ : ∃ i : Int, (n14 : Int) + 1 = i := ⟨_, rfl⟩
          obtain ⟨i13, hi13⟩ : ∃ i : Int, (n13 : Int) + i14 = i := ⟨_, rfl⟩
          obtain ⟨ik, hik⟩ : ∃ i : Int, ((k + 1 : Nat) : Int) = i := ⟨_, rfl⟩
          have HII := Aside0.mk (And.intro hi14 (And.intro hi13 hik))
          have hwr : wrap64 ((n14 : Int) + 1) = i14 := by rw [hi14]; have h1 := HSU.out; have h2 := HN6.out; unfold wrap64; omega
          have hws : wrap64 ((n13 : Int) + i14) = i13 := by rw [hi13]; have h1 := HSU.out; have h2 := HN6.out; unfold wrap64; omega
          have hwk : wrap64 ((k : Int) + 1) = ik := by have h2 := HN6.out; unfold wrap64; omega
          have HWR := Aside0.mk (And.intro hwr (And.intro hwk hws))
          clear hwr hwk hws hi14 hi13 hik
          by_cases hm : i14 = mo
          · have ea : addG mo gs ws r = gs ++ [ws ++ [r]] := if_neg (by rw [HSU.out.2.2, HII.out.1]; omega)
            have eb : addW mo ws r = [] := if_neg (by rw [HSU.out.2.2, HII.out.1]; omega)
            have hbo8 := HL.out.bo
            rw [ea, eb] at hbo8
            have hbk8 := hbo8.bk
            have es : (((gs ++ [ws ++ [r]]).flatten.length : Nat) : Int) = i13 := by rw [List.flatten_append, List.length_append, HSU.out.2.1, ← HII.out.2.1, ← HII.out.1]; simp [HSU.out.2.2]
            rw [es] at hbk8
            have HBO8 := Aside0.mk hbo8
            have HBK8 := Aside0.mk hbk8
            have HES := Aside0.mk es
            have q5 : (i14 == mo) = true := by rw [hm]; exact beq_self_eq_true _
            have q6 : (i14 = mo) = True := eq_true hm
            have HMM := Aside0.mk hm
            have hwr := HWR.out.1
            have hws := HWR.out.2.2
            have hwk := HWR.out.2.1
            clear hbo8 hbk8 es hm ea eb
            go_wp2_with (first
              | (go_at_call 44; (with_reducible refine (flush_none _ gb g _ _ _ _ _ HBK8.out).mono ?_); rintro e w' ⟨rfl, rfl⟩)
              | (go_at_call 41; (with_reducible refine (sure_calls _ gb g _ _ _ _ _ _ HBK8.out).mono ?_); rintro e w' ⟨rfl, rfl⟩)
              | (go_at_call 42; (with_reducible refine (wait_none _ gb g _ _ _ _ _ HBK8.out).mono ?_); rintro e w' ⟨rfl, rfl⟩))
            clear hwr hws hwk q5 q6
            have e3 : wrap64 ((k : Int) + 1) = ((k + 1 : Nat) : Int) := HWR.out.2.1.trans HII.out.2.2.symm
            have hme := count_up k 60 (by have h1 := HK.out.1; have h2 := HN6.out; clear e3; omega)
            rw [← e3] at hme
            have e4 := congrArg (Value.int .i64) e3
            have HE34 := Aside0.mk (And.intro hme e4)
            clear hme e3 e4
            refine ⟨⟨k + 1, vw8, gs ++ [ws ++ [r]], [], HK.out.1, HE34.out.2, (congrArg (Value.int .i64) HES.out).symm, rfl, HBO8.out, ?_, HM8.out, HAP8.out, ?_⟩, ?_⟩
            · rw [HTK.out, ← HFL.out]
              simp
            · intro hb x hx
              rcases List.mem_append.1 hx with hx | hx
              · exact HFU.out hb x hx
              · rw [List.mem_singleton.1 hx, ← HMM.out, ← HII.out.1, List.length_append, HSU.out.2.2]
                rfl
            · exact HE34.out.1
          · have hrm := HB7.out.room
            have ea : addG mo gs ws r = gs := if_pos (by rw [HSU.out.2.2] at hrm ⊢; have := HII.out.1; omega)
            have eb : addW mo ws r = ws ++ [r] := if_pos (by rw [HSU.out.2.2] at hrm ⊢; have := HII.out.1; omega)
            have hbo8 := HL.out.bo
            rw [ea, eb] at hbo8
            have q5 : (i14 == mo) = false := beq_eq_false_iff_ne.2 hm
            have q6 : (i14 = mo) = False := eq_false hm
            have ewl : (((ws ++ [r]).length : Nat) : Int) = i14 := by rw [List.length_append, HSU.out.2.2, ← HII.out.1]; rfl
            have HEW := Aside0.mk ewl
            have HBO8 := Aside0.mk hbo8
            clear hrm ea eb hbo8 hm ewl
            have b9 : (bs.length : Int) ≤ 9223372036854775807 := by have := HF.out.2.1; omega
            by_cases hif : k < bs.length
            · have q7 : decide ((k : Int) < (bs.length : Int)) = true := decide_eq_true (by omega)
              have b8 : (k : Int) < (bs.length : Int) := by omega
              obtain ⟨ad2, hA2, hcell⟩ := (HF.out.below HBO8.out.below).2.2 (by omega)
              subst hA2
              have c2' := hcell k hif
              clear hcell
              cases hfb : bs.getD k false with
              | true =>
                rw [hfb] at c2'
                clear hfb
                have hf0 := flush_bo HBO8.out (by have h1 := HSU.out; have h2 := HN6.out; unfold tot; rw [List.length_append]; simp only [List.length_singleton]; omega) (by have h1 := HSU.out; have h2 := HN6.out; unfold tot; rw [List.length_append]; simp only [List.length_singleton]; omega) (by omega) (by have h1 := HSU.out; have h2 := HN6.out; rw [List.length_append]; simp only [List.length_singleton]; omega)
                have ef : fluG gs (ws ++ [r]) = gs ++ [ws ++ [r]] := if_neg (by simp)
                rw [ef] at hf0
                have HF0 := Aside0.mk hf0
                have es : (((gs ++ [ws ++ [r]]).flatten.length : Nat) : Int) = i13 := by rw [List.flatten_append, List.length_append, HSU.out.2.1, ← HII.out.2.1, ← HII.out.1]; simp [HSU.out.2.2]
                have HES := Aside0.mk es
                clear hf0 ef es
                have hwr := HWR.out.1
                have hws := HWR.out.2.2
                go_wp2_with (first
                  | (go_at_call 44; (with_reducible refine HF0.out.mono ?_); rintro e w9 ⟨rfl, vw9, hl⟩; have HL9 := Aside0.mk hl; have HM9 := Aside0.mk (HM8.out.fr hl.fr HBO8.out.bk.blk HAP8.out); have HAP9 := Aside0.mk (HAP8.out.moved HM8.out hl.moved); have hbk := hl.bo.bk; rw [HES.out] at hbk; have HBK9 := Aside0.mk hbk; clear hl hbk c2')
                  | (go_at_call 41; (with_reducible refine (sure_calls _ gb g _ _ _ _ _ _ HBK9.out).mono ?_); rintro e w' ⟨rfl, rfl⟩)
                  | (go_at_call 42; (with_reducible refine (wait_none _ gb g _ _ _ _ _ HBK9.out).mono ?_); rintro e w' ⟨rfl, rfl⟩))
                clear hwr hws q5 q6 q7
                have HME := Aside0.mk (count_up k 60 (by have h1 := HK.out.1; have h2 := HN6.out; omega))
                refine ⟨⟨k + 1, vw9, gs ++ [ws ++ [r]], [], HK.out.1, rfl, (congrArg (Value.int .i64) HES.out).symm, rfl, HL9.out.bo, ?_, HM9.out, HAP9.out, fun hb => ?_⟩, HME.out⟩
                · rw [HTK.out, ← HFL.out]
                  simp
                · rw [hb] at hif
                  exact absurd hif (Nat.not_lt_zero _)
              | false =>
                rw [hfb] at c2'
                clear hfb
                have hbk := HBO8.out.bk
                rw [HSU.out.2.1] at hbk
                have hwt := waiting_calls _ gb g mo _ vw8 (ws ++ [r]) _ w8 hbk
                rw [HEW.out] at hwt
                have HBK8 := Aside0.mk hbk
                have HWT := Aside0.mk hwt
                clear hbk hwt
                have hwr := HWR.out.1
                go_wp2_with (first
                  | (go_at_call 41; (with_reducible refine (sure_calls _ gb g _ _ _ _ _ _ HBK8.out).mono ?_); rintro e w' ⟨rfl, rfl⟩)
                  | (go_at_call 42; (with_reducible refine HWT.out.mono ?_); rintro e w' ⟨rfl, rfl⟩))
                clear hwr q5 q6 q7 c2'
                have HME := Aside0.mk (count_up k 60 (by have h1 := HK.out.1; have h2 := HN6.out; omega))
                refine ⟨⟨k + 1, vw8, gs, ws ++ [r], HK.out.1, rfl, (congrArg (fun n : Nat => Value.int .i64 (n : Int)) HSU.out.2.1).symm, (congrArg (Value.int .i64) HEW.out).symm, HBO8.out, ?_, HM8.out, HAP8.out, HFU.out⟩, HME.out⟩
                rw [HTK.out, ← HFL.out, List.append_assoc]
            · have q7 : decide ((k : Int) < (bs.length : Int)) = false := decide_eq_false (by omega)
              have hbk := HBO8.out.bk
              rw [HSU.out.2.1] at hbk
              have hwt := waiting_calls _ gb g mo _ vw8 (ws ++ [r]) _ w8 hbk
              rw [HEW.out] at hwt
              have HBK8 := Aside0.mk hbk
              have HWT := Aside0.mk hwt
              clear hbk hwt
              have hwr := HWR.out.1
              go_wp2_with (first
                | (go_at_call 41; (with_reducible refine (sure_calls _ gb g _ _ _ _ _ _ HBK8.out).mono ?_); rintro e w' ⟨rfl, rfl⟩)
                | (go_at_call 42; (with_reducible refine HWT.out.mono ?_); rintro e w' ⟨rfl, rfl⟩))
              clear hwr q5 q6 q7
              have e3 : wrap64 ((k : Int) + 1) = ((k + 1 : Nat) : Int) := HWR.out.2.1.trans HII.out.2.2.symm
              have hme := count_up k 60 (by have h1 := HK.out.1; have h2 := HN6.out; clear e3; omega)
              rw [← e3] at hme
              have e4 := congrArg (Value.int .i64) e3
              have HE34 := Aside0.mk (And.intro hme e4)
              clear hme e3 e4
              refine ⟨⟨k + 1, vw8, gs, ws ++ [r], HK.out.1, HE34.out.2, (congrArg (fun n : Nat => Value.int .i64 (n : Int)) HSU.out.2.1).symm, (congrArg (Value.int .i64) HEW.out).symm, HBO8.out, ?_, HM8.out, HAP8.out, HFU.out⟩, HE34.out.1⟩
              rw [HTK.out, ← HFL.out, List.append_assoc]
    case rest =>
      clear HBO0 HMS3
      obtain ⟨vw, gs, ws, hbo, hfl, hm, hap, hfull⟩ := hcut
      have hfu : bs.length = 0 → ∀ x ∈ gs, (x.length : Int) = mo := fun h => hfull (List.eq_nil_of_length_eq_zero h)
      have HBO := Aside0.mk hbo
      have HFL := Aside0.mk hfl
      have HM := Aside0.mk hm
      have HAP := Aside0.mk hap
      have HFU := Aside0.mk hfu
      have htot : gs.flatten.length + ws.length = N6 := by rw [← List.length_append, hfl, HML.out.1]
      have HTT := Aside0.mk htot
      clear hbo hfl hm hap hfull hfu htot HF
      generalize bs.length = nb at HFU ⊢
      go_upto_region 24 with (fail)
      go_cut [114] (fun v114 wx => ∃ (vw : Value) (gs : List (List Nat)) (ws : List Nat), v114 = .bool false ∧ Bo True 1048576 w.heap.size w wx gb g mo vw gs ws ∧ gs.flatten ++ ws = ms ∧ Own wx w.heap.size (.slice A5 N6 c5) ms)
      case first =>
        by_cases h0 : nb = 0
        · subst h0
          obtain ⟨mm, hmm⟩ : ∃ n : Nat, mo = (n : Int) := ⟨mo.toNat, by have := HMO.out; omega⟩
          have hF := full_flu mm (by have := HMO.out; omega) ws (by have := HBO.out.room; omega) gs (fun x hx => by have := HFU.out rfl x hx; omega)
          have hff := flu_flat gs ws
          rw [HFL.out] at hff
          have hfb := flush_bo HBO.out (by have := HTT.out; have := HN6.out; unfold tot; omega) (by have := HTT.out; have := HN6.out; unfold tot; omega) (by omega) (by have := HTT.out; have := HN6.out; omega)
          obtain ⟨G, hG⟩ : ∃ G, fluG gs ws = G := ⟨_, rfl⟩
          rw [hG] at hF hff hfb
          have HFB := Aside0.mk hfb
          have HG := Aside0.mk (And.intro hF hff)
          have HTX := Aside0.mk (fun (W : World) (A : Option Addr) (c : Nat) (h : Kd.C k36 W A N6 (G.flatten.map recQ)) (hc : N6 ≤ c) => text_calls W mm (by have := HMO.out; omega) (by have := HMO.out; omega) G hF (by rw [hff]; exact HML.out.2) (by rw [hff, HML.out.1]; have := HN6.out; omega) A N6 c (by rw [hff, HML.out.1]) h hc)
          rw [← hmm] at HTX
          obtain ⟨y, hy⟩ : ∃ y, strB (logF 0 G) = y := ⟨_, rfl⟩
          rw [hy] at HTX
          have HY := Aside0.mk hy
          clear hF hff hfb hG hmm hy
          go_wp2_with (first
            | (go_at_call 44; (with_reducible refine HFB.out.mono ?_); rintro e wa ⟨rfl, vwa, hl⟩; have HL := Aside0.mk hl; have HMA := Aside0.mk (HM.out.fr hl.fr HBO.out.bk.blk HAP.out); (obtain ⟨safe, hst, hsf⟩ := hl.bo.sto); have HSTO := Aside0.mk hst; clear hl hst hsf)
            | (go_at_call 47; (with_reducible refine (bytes_y _ g _ y HY.out _ wa HSTO.out).mono ?_); rintro e w' ⟨rfl, rfl⟩)
            | (go_at_call 21; (with_reducible refine (told_n wa _ _ ms N6 HML.out.1 HMA.out (by have := HN6.out; omega)).mono ?_); rintro e wb ⟨A8, c8, rfl, hk8, hc8, hb8⟩; have HK8 := Aside0.mk (And.intro hk8 hc8); have HB8 := Aside0.mk hb8; clear hk8 hc8 hb8)
            | (go_at_call 49; (with_reducible refine (HTX.out wb A8 c8 (by rw [HG.out.2]; exact HK8.out.1) HK8.out.2).mono ?_); rintro e wd ⟨rfl, hb9⟩; have HB9 := Aside0.mk (below_then HB8.out HB8.out.size hb9); clear hb9))
          go_meet
          exact ⟨vwa, G, [], by first | rfl | simp, HL.out.bo.on HB9.out, by rw [List.append_nil]; exact HG.out.2, HMA.out.below HB9.out⟩
        · have q1 : (nb = 0) = False := eq_false h0
          have q2 : ((nb : Int) == 0) = false := beq_eq_false_iff_ne.2 (by omega)
          have q3 : ((nb : Int) = 0) = False := eq_false (by omega)
          go_wp2
          go_meet
          exact ⟨vw, gs, ws, by first | rfl | simp, HBO.out, HFL.out, HM.out⟩
      case rest =>
        clear HBO HFL HM HAP HFU HTT
        obtain ⟨vw, gs, ws, rfl, hbo, hfl, hm⟩ := hcut
        obtain ⟨safe, hst, hsf⟩ := hbo.sto
        have hs1 := hsf trivial
        obtain ⟨n0, hn0⟩ : ∃ n0, (logF 0 gs).length = n0 := ⟨_, rfl⟩
        obtain ⟨kk, hkk⟩ : ∃ kk, gs.flatten.length = kk := ⟨_, rfl⟩
        have hkN : kk + ws.length = N6 := by rw [← hkk, ← List.length_append, hfl, HML.out.1]
        have htk : ms.take kk = gs.flatten := by rw [← hfl, List.take_left' hkk]
        have hcap : N6 ≤ c5 := by
          obtain ⟨A', c', e, h1, h2⟩ := hm.reads
          injection e with _ e1 e
          omega
        have hxl : ((logF 0 gs).map Int.ofNat).length = n0 := by rw [List.length_map, hn0]
        have hW := whole_log gs hbo.good (by have := HN6.out; omega) (strB (logF 0 gs)) [] (by rw [List.append_nil]; exact bl_strB _ (logF_lt gs 0)) openL_none (by simp)
        have hrd := fun W => read_calls _ gs (logE gs) hW W
        rw [logE_all, hn0] at hrd
        have hbk := hbo.bk
        rw [hkk] at hbk
        have hcut := Own.cut hm kk (by omega)
        rw [htk] at hcut
        have hlen := fun W (h : Sto 1048576 w.heap.size W g ((logF 0 gs).map Int.ofNat) safe) => len_c _ g _ safe W h
        rw [hxl] at hlen
        have hsaf := fun W (h : Sto 1048576 w.heap.size W g ((logF 0 gs).map Int.ofNat) safe) => safe_c _ g _ safe W h
        rw [hs1, hxl] at hsaf
        rw [hs1, hxl] at hst hlen
        obtain ⟨y, hy⟩ : ∃ y, strB (logF 0 gs) = y := ⟨_, rfl⟩
        rw [hy] at hrd
        have HY := Aside0.mk hy
        have HRD := Aside0.mk hrd
        have HLEN := Aside0.mk hlen
        have HSAF := Aside0.mk hsaf
        have HSTO := Aside0.mk hst
        have HBK := Aside0.mk hbk
        have HCUT := Aside0.mk hcut
        have HBL := Aside0.mk hbo.below
        have b0 : (0 : Int) ≤ (kk : Int) := by omega
        have b1 : (kk : Int) ≤ (c5 : Int) := by omega
        have HFW := Aside0.mk (show gs.flatten.length ≤ 1000 by have := HN6.out; omega)
        have HKK := Aside0.mk hkk
        clear hbo hfl hm hst hsf hs1 hn0 hkN htk hcap hxl hW hrd hbk hcut hlen hsaf hy hkk
        generalize gs.flatten = fl at HRD HCUT HFW HKK
        go_wp2_with (first
          | (go_at_call 47; (with_reducible refine (bytes_y _ g _ y HY.out _ _ HSTO.out).mono ?_); rintro e w' ⟨rfl, rfl⟩)
          | (go_at_call 46; (with_reducible refine (HRD.out _).mono ?_); rintro e wr ⟨v, rfl, ho, hb⟩; have HO := Aside0.mk ho; have HBR := Aside0.mk (below_then HBL.out HBL.out.size hb); have HSTR := Aside0.mk (HSTO.out.below hb); have HBKR := Aside0.mk (HBK.out.below hb); have HCR := Aside0.mk (HCUT.out.below hb); clear ho hb)
          | (go_at_call 41; (with_reducible refine (sure_calls _ gb g _ _ _ _ _ _ HBKR.out).mono ?_); rintro e w' ⟨rfl, rfl⟩)
          | (go_at_call 21; (with_reducible refine (told_calls _ _ _ fl HCR.out HFW.out).mono ?_); rintro e wt ⟨vt, rfl, ht, hb⟩; have HTT := Aside0.mk ht; have HOT := Aside0.mk (HO.out.below hb); have HBT := Aside0.mk (below_then HBR.out HBR.out.size hb); have HSTT := Aside0.mk (HSTR.out.below hb); clear ht hb)
          | (go_at_call 20; (with_reducible refine (are_calls _ _ _ _ _ fl HOT.out HTT.out HFW.out).mono ?_); rintro e wz ⟨rfl, hb⟩; have HBZ := Aside0.mk (below_then HBT.out HBT.out.size hb); have HSTZ := Aside0.mk (HSTT.out.below hb); clear hb)
          | (go_at_call 48; (with_reducible refine (HLEN.out _ HSTZ.out).mono ?_); rintro e w' ⟨rfl, rfl⟩)
          | (go_at_call 50; (with_reducible refine (HSAF.out _ HSTZ.out).mono ?_); rintro e w' ⟨rfl, rfl⟩))
        go_ret
        exact ⟨rfl, HBZ.out⟩
end Go.Proofs.Ythlllcmffgdcmaa.Book

/- May an instruction be? The program's answer. -/
import Derived.Test.YthlllcmffgdcmabZCode0
import Derived.Test.YthlllcmffgdcmabZPCodeChecksx2
import Derived.Deep.DeepCutAuto
import Derived.Deep.CutBlock
import Derived.Deep.RegionLaw
section
namespace Go.Proofs.Ythlllcmffgdcmab.Code
open Go.RowKit Go.Proofs.YthlllcmffgdcmabW.PrintWords Go.Proofs.YthlllcmffgdcmabW.PrintLast Go.Proofs.YthlllcmffgdcmabW.PrintMore
open Go.Proofs.Ythlllcmffgdcmab.PCodeChecks (S76 k76 S161 k161 code_Program_limit.f)
set_option linter.unusedVariables false
set_option linter.unusedSimpArgs false
def limF (nf nc : Int) (locks ncs ncode f : Int) : Int × Int × Bool :=
  if f = 0 then (0, 1, true) else if f = 1 then (0, 8, true) else if f = 3 then (0, ncode, true) else if f = 4 then (0, nf, true) else if f = 5 then (0, nc, true) else if f = 6 then (0, locks, true) else if f = 7 then (0, ncs, true)
  else if f = 8 then (1, wrap64 (ncs + 1), true) else if f = 9 then (1, 1099511627776, true) else if f = 10 then (0, 1048576, true) else (0, 0, false)
theorem lim_f (l0 : List (List S76)) (l1 : List Int) (a2 : Int) (l3 : List S161) (f : Int) (l2 : List S76) : code_Program_limit.f l0 l1 a2 l3 f l2 = some (limF l0.length l1.length a2 l3.length l2.length f) := by
  unfold code_Program_limit.f limF
  repeat' split
  all_goals first | rfl | (exfalso; omega)
def badF (nf nc : Int) (locks ncs ncode f n : Int) : Bool := (limF nf nc locks ncs ncode f).2.2 && (decide (n < (limF nf nc locks ncs ncode f).1) || decide ((limF nf nc locks ncs ncode f).2.1 ≤ n))
def insF (nf nc : Int) (locks ncs ncode op a b c : Int) : Int :=
  if 0 ≤ op ∧ op < 23 then
    if badF nf nc locks ncs ncode (fld op.toNat 0) a = true ∨ badF nf nc locks ncs ncode (fld op.toNat 1) b = true ∨ badF nf nc locks ncs ncode (fld op.toNat 2) c = true then 4
    else if op = 16 ∧ wrap64 (ncs - a) < b then 4 else 0
  else 9
def argF (a b c : Int) (i : Nat) : Int := if i = 0 then a else if i = 1 then b else c
theorem arg_get {α : Type} (f : Int → α) (a b c : Int) (i : Nat) (h : i < 3) : (#[f a, f b, f c] : Array α)[i]? = some (f (argF a b c i)) := by
  match i, h with
  | 0, _ => rfl
  | 1, _ => rfl
  | 2, _ => rfl
theorem fld_get {α : Type} (f : Int → α) (o i : Nat) (h : i < 3) : (#[f (fld o 0), f (fld o 1), f (fld o 2)] : Array α)[i]? = some (f (fld o i)) := by
  match i, h with
  | 0, _ => rfl
  | 1, _ => rfl
  | 2, _ => rfl
def code_Program_ins.f (l0_0 : List (List S76)) (l0_1 : List Int) (a0_2 : Int) (l0_3 : List S161) (a1_0 a1_1 a1_2 a1_3 : Int) (l2 : List S76) : Option Int := some (insF l0_0.length l0_1.length a0_2 l0_3.length l2.length a1_0 a1_1 a1_2 a1_3)
set_option maxHeartbeats 4000000 in
set_option maxRecDepth 100000 in
theorem code_Program_ins.calls (A0_0 : Option Addr) (c0_0 : Nat) (l0_0 : List (List (S76))) (A0_1 : Option Addr) (c0_1 : Nat) (l0_1 : List Int) (a0_2 : Int) (A0_3 : Option Addr) (c0_3 : Nat) (l0_3 : List (S161)) (a1_0 a1_1 a1_2 a1_3 : Int) (A2 : Option Addr) (c2 : Nat) (l2 : List (S76)) (r : Int) (w : World) (hr0_0 : Kd.C (Kd.slice 76 k76) w A0_0 l0_0.length l0_0) (hc0_0 : l0_0.length ≤ c0_0) (hr0_1 : Kd.C (Kd.int .i64) w A0_1 l0_1.length l0_1) (hc0_1 : l0_1.length ≤ c0_1) (hr0_3 : Kd.C k161 w A0_3 l0_3.length l0_3) (hc0_3 : l0_3.length ≤ c0_3) (hr2 : Kd.C k76 w A2 l2.length l2) (hc2 : l2.length ≤ c2) (h : code_Program_ins.f l0_0 l0_1 a0_2 l0_3 a1_0 a1_1 a1_2 a1_3 l2 = some r) :
    Calls Try.prog 72 #[.agg #[.slice A0_0 l0_0.length c0_0, .slice A0_1 l0_1.length c0_1, .int .i64 a0_2, .slice A0_3 l0_3.length c0_3], .agg #[.int .i64 a1_0, .int .i64 a1_1, .int .i64 a1_2, .int .i64 a1_3], .slice A2 l2.length c2] w fun e w' => e = .returned (.int .i64 r) ∧ Below w.heap.size w w' := by
  have HLM := Aside0.mk (fun (f lo hi : Int) (bd : Bool) (he : limF l0_0.length l0_1.length a0_2 l0_3.length l2.length f = (lo, hi, bd)) (W : World) (hb : Below w.heap.size w W) => Go.Proofs.Ythlllcmffgdcmab.PCodeChecks.code_Program_limit.calls A0_0 c0_0 l0_0 A0_1 c0_1 l0_1 a0_2 A0_3 c0_3 l0_3 f A2 c2 l2 lo hi bd W (Kd.C_below hr0_0 hb) hc0_0 (Kd.C_below hr0_1 hb) hc0_1 (Kd.C_below hr0_3 hb) hc0_3 (Kd.C_below hr2 hb) hc2 (by rw [lim_f, he]))
  have HR := Aside0.mk (Option.some.inj h)
  have hb2 := below_alloc (below_alloc (Below.refl w.heap.size w) (.cells #[.slice A0_0 l0_0.length c0_0, .slice A0_1 l0_1.length c0_1, .int .i64 a0_2, .slice A0_3 l0_3.length c0_3] 121)) (.cells #[.int .i64 a1_0, .int .i64 a1_1, .int .i64 a1_2, .int .i64 a1_3] 76)
  have hp2 := blk_alloc (blk_new w (.cells #[.slice A0_0 l0_0.length c0_0, .slice A0_1 l0_1.length c0_1, .int .i64 a0_2, .slice A0_3 l0_3.length c0_3] 121)) (.cells #[.int .i64 a1_0, .int .i64 a1_1, .int .i64 a1_2, .int .i64 a1_3] 76)
  have hx2 := blk_new (w.alloc (.cells #[.slice A0_0 l0_0.length c0_0, .slice A0_1 l0_1.length c0_1, .int .i64 a0_2, .slice A0_3 l0_3.length c0_3] 121)) (.cells #[.int .i64 a1_0, .int .i64 a1_1, .int .i64 a1_2, .int .i64 a1_3] 76)
  have HB2 := Aside0.mk hb2
  have HP2 := Aside0.mk hp2
  have HX2 := Aside0.mk hx2
  clear hb2 hp2 hx2 hr0_0 hc0_0 hr0_1 hc0_1 hr0_3 hc0_3 hr2 hc2 h
  generalize l0_0.length = nf at *
  generalize l0_1.length = nc at *
  generalize l0_3.length = ncs at *
  generalize l2.length = ncode at *
  go_enter Try.func72, Try.ntmps72
  go_upto_region 1 with (fail)
  have HSZ := Aside0.mk (show w.heap.size + 2 = ((w.alloc (.cells #[.slice A0_0 nf c0_0, .slice A0_1 nc c0_1, .int .i64 a0_2, .slice A0_3 ncs c0_3] 121)).alloc (.cells #[.int .i64 a1_0, .int .i64 a1_1, .int .i64 a1_2, .int .i64 a1_3] 76)).heap.size by simp)
  rw [show (w.alloc (.cells #[.slice A0_0 nf c0_0, .slice A0_1 nc c0_1, .int .i64 a0_2, .slice A0_3 ncs c0_3] 121)).heap.size = w.heap.size + 1 by simp] at HX2
  change Code.wp _ _ _ _ ((w.alloc (.cells #[.slice A0_0 nf c0_0, .slice A0_1 nc c0_1, .int .i64 a0_2, .slice A0_3 ncs c0_3] 121)).alloc (.cells #[.int .i64 a1_0, .int .i64 a1_1, .int .i64 a1_2, .int .i64 a1_3] 76))
  generalize (w.alloc (.cells #[.slice A0_0 nf c0_0, .slice A0_1 nc c0_1, .int .i64 a0_2, .slice A0_3 ncs c0_3] 121)).alloc (.cells #[.int .i64 a1_0, .int .i64 a1_1, .int .i64 a1_2, .int .i64 a1_3] 76) = w2 at HB2 HP2 HX2 HSZ ⊢
  have x0 : w2.cell? ⟨w.heap.size + 1, 0, none⟩ = some (.int .i64 a1_0) := (blk_cell HX2.out 0).trans rfl
  have hrr := HR.out
  unfold insF at hrr
  by_cases hop : 0 ≤ a1_0 ∧ a1_0 < 23
  case neg =>
    rw [if_neg hop] at hrr
    subst hrr
    have hno : a1_0 < 0 ∨ 23 ≤ a1_0 := by omega
    go_wp2_with (go_at_call 89; (with_reducible refine (shape_no a1_0 hno w2).mono ?_); rintro e w3 ⟨rfl, hb⟩; have HB3 := Aside0.mk ((below_then HB2.out HB2.out.size hb).alloc (Nat.le_trans HB2.out.size hb.size) (.cells #[.int .i64 0, .int .i64 0, .int .i64 0] 173)); clear hb)
    go_ret
    exact ⟨rfl, HB3.out⟩
  case pos =>
    rw [if_pos hop] at hrr
    obtain ⟨o, ho⟩ : ∃ o : Nat, a1_0 = (o : Int) := ⟨a1_0.toNat, by omega⟩
    subst ho
    have ho23 : o < 23 := by omega
    rw [Int.toNat_natCast] at hrr
    have HRR := Aside0.mk hrr
    have HO23 := Aside0.mk ho23
    clear hrr hop HR
    go_upto_region 4 with (go_at_call 89; (with_reducible refine (shape_calls o HO23.out w2).mono ?_); rintro e w3 ⟨rfl, hb⟩; have HB3 := Aside0.mk ((below_then HB2.out HB2.out.size hb).alloc (Nat.le_trans HB2.out.size hb.size) (.cells #[.int .i64 (fld o 0), .int .i64 (fld o 1), .int .i64 (fld o 2)] 173)); have HP3 := Aside0.mk (blk_alloc (blk_below HP2.out hb) (.cells #[.int .i64 (fld o 0), .int .i64 (fld o 1), .int .i64 (fld o 2)] 173)); have HX3 := Aside0.mk (blk_alloc (blk_below HX2.out hb) (.cells #[.int .i64 (fld o 0), .int .i64 (fld o 1), .int .i64 (fld o 2)] 173)); have HF3 := Aside0.mk (blk_new w3 (.cells #[.int .i64 (fld o 0), .int .i64 (fld o 1), .int .i64 (fld o 2)] 173)); clear hb)
    clear ho23
    obtain ⟨zf, hzf⟩ : ∃ z, w3.heap.size = z := ⟨_, rfl⟩
    rw [hzf] at HF3 ⊢
    clear hzf x0
    obtain ⟨zx, hzx⟩ : ∃ z, w.heap.size + 1 = z := ⟨_, rfl⟩
    rw [hzx] at HX3 HX2 ⊢
    clear hzx
    change Code.wp _ _ _ _ (w3.alloc (.cells #[.int .i64 (fld o 0), .int .i64 (fld o 1), .int .i64 (fld o 2)] 173))
    generalize w3.alloc (.cells #[.int .i64 (fld o 0), .int .i64 (fld o 1), .int .i64 (fld o 2)] 173) = w4 at HB3 HP3 HX3 HF3 ⊢
    have x1 : w4.cell? ⟨zx, 1, none⟩ = some (.int .i64 a1_1) := (blk_cell HX3.out 1).trans rfl
    have x2 : w4.cell? ⟨zx, 2, none⟩ = some (.int .i64 a1_2) := (blk_cell HX3.out 2).trans rfl
    have x3 : w4.cell? ⟨zx, 3, none⟩ = some (.int .i64 a1_3) := (blk_cell HX3.out 3).trans rfl
    go_upto_block 0 with (fail)
    have HL5 := Aside0.mk (blk_new w4 (.cells #[.int .i64 a1_1, .int .i64 a1_2, .int .i64 a1_3] 3))
    have hb5 := below_alloc (Below.refl w4.heap.size w4) (.cells #[.int .i64 a1_1, .int .i64 a1_2, .int .i64 a1_3] 3)
    have HB5 := Aside0.mk (below_then HB3.out HB3.out.size hb5)
    have HP5 := Aside0.mk (blk_below HP3.out hb5)
    have HX5 := Aside0.mk (blk_below HX3.out hb5)
    have HF5 := Aside0.mk (blk_below HF3.out hb5)
    obtain ⟨zl, hzl⟩ : ∃ z, w4.heap.size = z := ⟨_, rfl⟩
    rw [hzl] at HL5 ⊢
    clear hzl hb5 x1 x2 x3
    change Code.wp _ _ _ _ (w4.alloc (.cells #[.int .i64 a1_1, .int .i64 a1_2, .int .i64 a1_3] 3))
    generalize w4.alloc (.cells #[.int .i64 a1_1, .int .i64 a1_2, .int .i64 a1_3] 3) = w5 at HL5 HB5 HP5 HX5 HF5 ⊢
    go_cut [] (fun wx => Below w.heap.size w wx ∧ Below w5.heap.size w5 wx ∧ ∀ j, j < 3 → badF nf nc a0_2 ncs ncode (fld o j) (argF a1_1 a1_2 a1_3 j) = false)
    case first =>
      go_wp2
      go_loopw [30] (fun v30 wr => ∃ i : Nat, v30 = .int .i64 i ∧ i ≤ 3 ∧ Below w.heap.size w wr ∧ Below w5.heap.size w5 wr ∧ ∀ j, j < i → badF nf nc a0_2 ncs ncode (fld o j) (argF a1_1 a1_2 a1_3 j) = false) (fun v _ => 3 - (intOf v).toNat)
      case atStart => exact ⟨0, rfl, by omega, HB5.out, Below.refl _ _, fun j h => absurd h (Nat.not_lt_zero _)⟩
      case round =>
        obtain ⟨i, rfl, hi, hbl, hb5, hok⟩ := hrel
        have HBL := Aside0.mk hbl
        have HB6 := Aside0.mk hb5
        have HOK := Aside0.mk hok
        clear hbl hb5 hok
        by_cases hlt : i < 3
        case neg =>
          have q1 : decide ((i : Int) < 3) = false := decide_eq_false (by omega)
          obtain rfl : i = 3 := by omega
          go_wp2
          go_meet
          exact ⟨HBL.out, HB6.out, HOK.out⟩
        case pos =>
          have q1 : decide ((i : Int) < 3) = true := decide_eq_true (by omega)
          have b0 : (0 : Int) ≤ (i : Int) := by omega
          have b1 : (i : Int) < 3 := by omega
          obtain ⟨n, hn⟩ : ∃ n, argF a1_1 a1_2 a1_3 i = n := ⟨_, rfl⟩
          obtain ⟨f, hf⟩ : ∃ f, fld o i = f := ⟨_, rfl⟩
          have l0 : wr.cell? ⟨zl, i, none⟩ = some (.int .i64 n) := by rw [← hn]; exact (blk_cell (blk_below HL5.out HB6.out) i).trans (arg_get (Value.int .i64) a1_1 a1_2 a1_3 i hlt)
          have f0 : wr.cell? ⟨zf, i, none⟩ = some (.int .i64 f) := by rw [← hf]; exact (blk_cell (blk_below HF5.out HB6.out) i).trans (fld_get (Value.int .i64) o i hlt)
          have hp := blk_below HP5.out HB6.out
          have p0 : wr.cell? ⟨w.heap.size, 0, none⟩ = some (.slice A0_0 nf c0_0) := (blk_cell hp 0).trans rfl
          have p1 : wr.cell? ⟨w.heap.size, 1, none⟩ = some (.slice A0_1 nc c0_1) := (blk_cell hp 1).trans rfl
          have p2 : wr.cell? ⟨w.heap.size, 2, none⟩ = some (.int .i64 a0_2) := (blk_cell hp 2).trans rfl
          have p3 : wr.cell? ⟨w.heap.size, 3, none⟩ = some (.slice A0_3 ncs c0_3) := (blk_cell hp 3).trans rfl
          obtain ⟨lo, hi', bd, hlim⟩ : ∃ a b c, limF nf nc a0_2 ncs ncode f = (a, b, c) := ⟨_, _, _, rfl⟩
          have HL7 := Aside0.mk (HLM.out f lo hi' bd hlim)
          have HBAD := Aside0.mk (show badF nf nc a0_2 ncs ncode (fld o i) (argF a1_1 a1_2 a1_3 i) = (bd && (decide (n < lo) || decide (hi' ≤ n))) by rw [hn, hf]; unfold badF; rw [hlim])
          clear hp hlim hn hf
          go_upto_region 7 with (fail)
          go_cut [11, 12, 13] (fun v11 v12 v13 wx => v11 = .int .i64 lo ∧ v12 = .int .i64 hi' ∧ v13 = .bool bd ∧ Below wr.heap.size wr wx)
          case first =>
            go_region_law (go_simp; go_at_call 90; (with_reducible refine (HL7.out _ HBL.out.drew).mono ?_); rintro e w7 ⟨rfl, hb⟩; have HB7 := Aside0.mk (show Below wr.heap.size wr w7 from below_then (Below.refl wr.heap.size wr).drew (Below.refl wr.heap.size wr).drew.size hb); clear hb)
            all_goals
              go_wp2
              go_meet
              exact ⟨rfl, rfl, rfl, HB7.out⟩
          case rest =>
            obtain ⟨rfl, rfl, rfl, hb⟩ := hcut
            have HB8 := Aside0.mk (below_then HBL.out HBL.out.size hb)
            have HB9 := Aside0.mk (below_then HB6.out HB6.out.size hb)
            clear hb l0 f0 p0 p1 p2 p3
            obtain ⟨c1, hc1⟩ : ∃ c, decide (n < lo) = c := ⟨_, rfl⟩
            obtain ⟨c2', hc2⟩ : ∃ c, decide (hi' ≤ n) = c := ⟨_, rfl⟩
            have hbad := HBAD.out
            rw [hc1, hc2] at hbad
            have HBD := Aside0.mk hbad
            have hkw : wrap64 ((i : Int) + 1) = ((i + 1 : Nat) : Int) := by unfold wrap64; omega
            have HKW := Aside0.mk hkw
            have hgood : ∀ b : Bool, badF nf nc a0_2 ncs ncode (fld o i) (argF a1_1 a1_2 a1_3 i) = b → b = false → ∀ j, j < i + 1 → badF nf nc a0_2 ncs ncode (fld o j) (argF a1_1 a1_2 a1_3 j) = false := fun b h1 h2 j hj => by
              rcases Nat.lt_or_ge j i with h | h
              · exact HOK.out j h
              · obtain rfl : j = i := by omega
                rw [h1, h2]
            have hfour : badF nf nc a0_2 ncs ncode (fld o i) (argF a1_1 a1_2 a1_3 i) = true → r = 4 := fun h => by
              rw [← HRR.out, if_pos]
              match i, hlt, h with
              | 0, _, h => exact .inl h
              | 1, _, h => exact .inr (.inl h)
              | 2, _, h => exact .inr (.inr h)
            have HGD := Aside0.mk hgood
            have HFO := Aside0.mk hfour
            clear hbad hkw hgood hfour
            cases bd with
            | false =>
              go_wp2
              exact ⟨⟨i + 1, by first | (with_reducible exact congrArg (Value.int .i64) HKW.out) | go_num, by omega, HB8.out, HB9.out, HGD.out _ HBD.out rfl⟩, by simp [intOf]; omega⟩
            | true =>
              cases c1 with
              | true =>
                go_wp2
                go_ret
                exact ⟨by rw [HFO.out HBD.out]; rfl, HB8.out⟩
              | false =>
                cases c2' with
                | true =>
                  go_wp2
                  go_ret
                  exact ⟨by rw [HFO.out HBD.out]; rfl, HB8.out⟩
                | false =>
                  go_wp2
                  exact ⟨⟨i + 1, by first | (with_reducible exact congrArg (Value.int .i64) HKW.out) | go_num, by omega, HB8.out, HB9.out, HGD.out _ HBD.out rfl⟩, by simp [intOf]; omega⟩
    case rest =>
      obtain ⟨hbl, hb5, hok⟩ := hcut
      have HBL := Aside0.mk hbl
      have hx := blk_below HX5.out hb5
      have hp := blk_below HP5.out hb5
      have x0 : wc.cell? ⟨zx, 0, none⟩ = some (.int .i64 (o : Int)) := (blk_cell hx 0).trans rfl
      have x1 : wc.cell? ⟨zx, 1, none⟩ = some (.int .i64 a1_1) := (blk_cell hx 1).trans rfl
      have x2 : wc.cell? ⟨zx, 2, none⟩ = some (.int .i64 a1_2) := (blk_cell hx 2).trans rfl
      have p3 : wc.cell? ⟨w.heap.size, 3, none⟩ = some (.slice A0_3 ncs c0_3) := (blk_cell hp 3).trans rfl
      have h0 := hok 0 (by omega)
      have h1 := hok 1 (by omega)
      have h2 := hok 2 (by omega)
      have hrr := HRR.out
      rw [if_neg (by
        intro h
        rcases h with h | h | h
        · exact absurd (h.symm.trans h0) (by decide)
        · exact absurd (h.symm.trans h1) (by decide)
        · exact absurd (h.symm.trans h2) (by decide))] at hrr
      obtain ⟨sb, hsb⟩ : ∃ s, wrap64 ((ncs : Int) - a1_1) = s := ⟨_, rfl⟩
      rw [hsb] at hrr
      have HRE := Aside0.mk hrr
      clear hbl hb5 hok hx hp h0 h1 h2 hrr
      by_cases h16 : (o : Int) = 16
      · have q1 : ((o : Int) == 16) = true := beq_iff_eq.2 h16
        have q2 : (o = 16) = True := eq_true (by omega)
        have q3 : ((o : Int) = 16) = True := eq_true h16
        have H16 := Aside0.mk h16
        clear h16
        by_cases hgt : sb < a1_2
        · have q4 : decide (sb < a1_2) = true := decide_eq_true hgt
          have hr4 : r = 4 := by rw [← HRE.out, if_pos ⟨H16.out, hgt⟩]
          subst hr4
          clear hgt
          go_wp2
          go_ret
          exact ⟨rfl, HBL.out⟩
        · have q4 : decide (sb < a1_2) = false := decide_eq_false hgt
          have hr4 : r = 0 := by rw [← HRE.out, if_neg (fun h => hgt h.2)]
          subst hr4
          clear hgt
          go_wp2
          go_ret
          exact ⟨rfl, HBL.out⟩
      · have q1 : ((o : Int) == 16) = false := beq_eq_false_iff_ne.2 h16
        have q2 : (o = 16) = False := eq_false (by omega)
        have q3 : ((o : Int) = 16) = False := eq_false h16
        have hr4 : r = 0 := by rw [← HRE.out, if_neg (fun h => h16 h.1)]
        subst hr4
        clear h16
        go_wp2
        go_ret
        exact ⟨rfl, HBL.out⟩
end Go.Proofs.Ythlllcmffgdcmab.Code
end

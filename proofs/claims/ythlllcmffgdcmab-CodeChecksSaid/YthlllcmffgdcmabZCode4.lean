/- The program's check answers what the document's does; plain, no code in sight. -/
import Derived.Test.YthlllcmffgdcmabZQRef
import Derived.Test.YthlllcmffgdcmabZQCheck
import Derived.Test.YthlllcmffgdcmabZQOwn
section
namespace Go.Proofs.Ythlllcmffgdcmab.Code
open Go.RowKit Go.Proofs.YthlllcmffgdcmabW.PrintWords Go.Proofs.YthlllcmffgdcmabW.PrintLast Go.Proofs.YthlllcmffgdcmabW.PrintMore
open Go.Proofs.Ythlllcmffgdcmab.PCodeChecks
set_option linter.unusedVariables false
set_option linter.unusedSimpArgs false
def Ev {α : Type} (f : Nat → Option α) (v : α) : Prop := ∃ K, ∀ k, K ≤ k → f k = some v
theorem Ev.step {α : Type} {f g : Nat → Option α} {v : α} (h : Ev g v) (e : ∀ k, f (k + 1) = g k) : Ev f v := by
  obtain ⟨K, hK⟩ := h
  refine ⟨K + 1, fun k hk => ?_⟩
  match k, hk with
  | k + 1, hk => rw [e]; exact hK k (by omega)
theorem Ev.now {α : Type} {f : Nat → Option α} {v : α} (e : ∀ k, f (k + 1) = some v) : Ev f v := by
  refine ⟨1, fun k hk => ?_⟩
  match k, hk with
  | k + 1, hk => exact e k
theorem Ev.same {α : Type} {f g : Nat → Option α} {v : α} (h : Ev g v) (e : ∀ k, f k = g k) : Ev f v := by
  obtain ⟨K, hK⟩ := h
  exact ⟨K, fun k hk => by rw [e]; exact hK k hk⟩
theorem w64_nat {n : Nat} (h : n < 9223372036854775807) : wrap64 ((n : Int) + 1) = ((n + 1 : Nat) : Int) := by
  rw [w64_in _ (by omega)]; omega
def c128 (x : S128) : S76 := ⟨x.f0, x.f1, x.f2, x.f3⟩
def c134 (x : S134) : S161 := ⟨x.f0, x.f1, x.f2⟩
theorem rd76 (xs : List S128) (i : Int) : rd_T76 (xs.map c128) i = c128 (rd_T128 xs i) := by
  unfold rd_T76 rd_T128
  rw [List.getD_eq_getElem?_getD, List.getD_eq_getElem?_getD, List.getElem?_map]
  cases xs[i.toNat]? <;> rfl
theorem rdL3 (xs : List (List S128)) (i : Int) : rd_L3 (xs.map (List.map c128)) i = (rd_L5 xs i).map c128 := by
  unfold rd_L3 rd_L5
  rw [List.getD_eq_getElem?_getD, List.getD_eq_getElem?_getD, List.getElem?_map]
  cases xs[i.toNat]? <;> rfl
theorem rd161 (xs : List S134) (i : Int) : rd_T161 (xs.map c134) i = c134 (rd_T134 xs i) := by
  unfold rd_T161 rd_T134
  rw [List.getD_eq_getElem?_getD, List.getD_eq_getElem?_getD, List.getElem?_map]
  cases xs[i.toNat]? <;> rfl
def Same (f : Nat → Option (Int × Int × Int)) (g : Nat → Option (Int × Int × Int × Bool)) : Prop := ∃ a b e, Ev f (a, b, e) ∧ Ev g (a, b, e, e == 0)
theorem Same.step {f f' : Nat → Option (Int × Int × Int)} {g g' : Nat → Option (Int × Int × Int × Bool)} (h : Same f' g') (e1 : ∀ k, f (k + 1) = f' k) (e2 : ∀ k, g (k + 1) = g' k) : Same f g := by
  obtain ⟨a, b, e, h1, h2⟩ := h
  exact ⟨a, b, e, h1.step e1, h2.step e2⟩
theorem Same.now {f : Nat → Option (Int × Int × Int)} {g : Nat → Option (Int × Int × Int × Bool)} (a b e : Int) (e1 : ∀ k, f (k + 1) = some (a, b, e)) (e2 : ∀ k, g (k + 1) = some (a, b, e, e == 0)) : Same f g := ⟨a, b, e, Ev.now e1, Ev.now e2⟩
theorem ins_sim (L0 : List (List S128)) (L1 : List Int) (locks : Int) (L3 : List S134) (h3 : L3.length ≤ 32) (i : Int) (f : List S128) (hf : f.length ≤ 64)
    (cont : Same (fun k => shunterref10_Check.l2 k L0 L0.length (wrap64 (i + 1)) L0 L1 locks L3) (fun k => code_Program_Check.l0 k (L0.map (List.map c128)) L0.length (wrap64 (i + 1)) (L0.map (List.map c128)) L1 locks (L3.map c134))) :
    ∀ (m j : Nat), j + m = f.length → Same (fun k => shunterref10_Check.l3 k i f L0 L0.length i f f.length j L0 L1 locks L3) (fun k => code_Program_Check.l1 k i (f.map c128) (L0.map (List.map c128)) L0.length i (f.map c128) f.length j (L0.map (List.map c128)) L1 locks (L3.map c134))
  | 0, j, hj => by
    refine cont.step (fun k => ?_) (fun k => ?_)
    · rw [shunterref10_Check.l3, if_neg (by omega)]
    · rw [code_Program_Check.l1, if_neg (by omega)]
  | m + 1, j, hj => by
    have ih := ins_sim L0 L1 locks L3 h3 i f hf cont m (j + 1) (by omega)
    rw [← w64_nat (by omega)] at ih
    obtain ⟨e, he⟩ : ∃ e, insF (L0.length : Int) (L1.length : Int) locks (L3.length : Int) (f.length : Int) (rd_T128 f j).f0 (rd_T128 f j).f1 (rd_T128 f j).f2 (rd_T128 f j).f3 = e := ⟨_, rfl⟩
    have hg : shunterref10_good.f L0 L1 locks L3 f (rd_T128 f j).f0 (rd_T128 f j).f1 (rd_T128 f j).f2 (rd_T128 f j).f3 = some e := by
      unfold shunterref10_good.f; rw [if_pos h3, he]
    have hc : code_Program_ins.f (L0.map (List.map c128)) L1 locks (L3.map c134) (rd_T76 (f.map c128) j).f0 (rd_T76 (f.map c128) j).f1 (rd_T76 (f.map c128) j).f2 (rd_T76 (f.map c128) j).f3 (f.map c128) = some e := by
      unfold code_Program_ins.f; rw [rd76, List.length_map, List.length_map, List.length_map]; exact congrArg some he
    by_cases h0 : e = 0
    · refine ih.step (fun k => ?_) (fun k => ?_)
      · rw [shunterref10_Check.l3, if_pos (by omega), if_pos (by omega), if_pos (by omega), hg, Option.bind_some, if_pos h0]
      · rw [code_Program_Check.l1, if_pos (by omega), if_pos (by omega), if_pos (by rw [List.length_map]; omega), hc, Option.bind_some, if_pos h0]
    · refine Same.now i j e (fun k => ?_) (fun k => ?_)
      · rw [shunterref10_Check.l3, if_pos (by omega), if_pos (by omega), if_pos (by omega), hg, Option.bind_some, if_neg h0]
      · rw [code_Program_Check.l1, if_pos (by omega), if_pos (by omega), if_pos (by rw [List.length_map]; omega), hc, Option.bind_some, if_neg h0, show (e == 0) = false from beq_eq_false_iff_ne.2 h0]
theorem funs_sim (L0 : List (List S128)) (L1 : List Int) (locks : Int) (L3 : List S134) (h3 : L3.length ≤ 32) (h0 : L0.length ≤ 16) :
    ∀ (m i : Nat), i + m = L0.length → Same (fun k => shunterref10_Check.l2 k L0 L0.length i L0 L1 locks L3) (fun k => code_Program_Check.l0 k (L0.map (List.map c128)) L0.length i (L0.map (List.map c128)) L1 locks (L3.map c134))
  | 0, i, hi => by
    refine Same.now 0 0 0 (fun k => ?_) (fun k => ?_)
    · rw [shunterref10_Check.l2, if_neg (by omega)]
    · rw [code_Program_Check.l0, if_neg (by omega)]; rfl
  | m + 1, i, hi => by
    have ih := funs_sim L0 L1 locks L3 h3 h0 m (i + 1) (by omega)
    rw [← w64_nat (by omega)] at ih
    obtain ⟨f, hf⟩ : ∃ f, rd_L5 L0 i = f := ⟨_, rfl⟩
    have hf' : rd_L3 (L0.map (List.map c128)) i = f.map c128 := by rw [rdL3, hf]
    by_cases h1 : (f.length : Int) < 1
    · refine ⟨i, -1, 3, Ev.now (fun k => ?_), (Ev.now (f := fun k => code_Program_Check.j1 k i (f.map c128) (L0.map (List.map c128)) L0.length i true (L0.map (List.map c128)) L1 locks (L3.map c134)) (fun k => ?_)).step (fun k => ?_)⟩
      · rw [shunterref10_Check.l2, if_pos (by omega), if_pos (by omega), if_pos (by omega), hf, in_f _ _ _ false (by unfold inB; rw [if_neg (by omega)]), Option.bind_some, if_neg (by decide)]
      · rw [code_Program_Check.j1, if_pos rfl]; rfl
      · rw [code_Program_Check.l0, if_pos (by omega), if_pos (by omega), if_pos (by rw [List.length_map]; omega), hf', List.length_map, if_pos h1]
    by_cases h2 : (f.length : Int) > 64
    · refine ⟨i, -1, 3, Ev.now (fun k => ?_), (Ev.now (f := fun k => code_Program_Check.j1 k i (f.map c128) (L0.map (List.map c128)) L0.length i true (L0.map (List.map c128)) L1 locks (L3.map c134)) (fun k => ?_)).step (fun k => ?_)⟩
      · rw [shunterref10_Check.l2, if_pos (by omega), if_pos (by omega), if_pos (by omega), hf, in_f _ _ _ false (by unfold inB; rw [if_pos (by omega), decide_eq_false (by omega)]), Option.bind_some, if_neg (by decide)]
      · rw [code_Program_Check.j1, if_pos rfl]; rfl
      · rw [code_Program_Check.l0, if_pos (by omega), if_pos (by omega), if_pos (by rw [List.length_map]; omega), hf', List.length_map, if_neg h1, decide_eq_true h2]
    obtain ⟨a, b, e, r1, r2⟩ := ins_sim L0 L1 locks L3 h3 i f (by omega) ih f.length 0 (by omega)
    refine ⟨a, b, e, r1.step (fun k => ?_), (Ev.step (f := fun k => code_Program_Check.j1 k i (f.map c128) (L0.map (List.map c128)) L0.length i false (L0.map (List.map c128)) L1 locks (L3.map c134)) r2 (fun k => ?_)).step (fun k => ?_)⟩
    · rw [shunterref10_Check.l2, if_pos (by omega), if_pos (by omega), if_pos (by omega), hf, in_f _ _ _ true (by unfold inB; rw [if_pos (by omega), decide_eq_true (by omega)]), Option.bind_some, if_pos rfl]; rfl
    · rw [code_Program_Check.j1, if_neg (by decide), List.length_map]; rfl
    · rw [code_Program_Check.l0, if_pos (by omega), if_pos (by omega), if_pos (by rw [List.length_map]; omega), hf', List.length_map, if_neg h1, decide_eq_false h2]
def Parts (f : Nat → Option (Int × Int × Int)) (g : Nat → Option Int) (on : Nat → Option (Int × Int × Int)) : Prop :=
  (∃ e, e ≠ 0 ∧ Ev f (-1, -1, e) ∧ Ev g e) ∨ ((∀ v, Ev on v → Ev f v) ∧ Ev g 0)
theorem Parts.step {f f' : Nat → Option (Int × Int × Int)} {g g' : Nat → Option Int} {on : Nat → Option (Int × Int × Int)} (h : Parts f' g' on) (e1 : ∀ k, f (k + 1) = f' k) (e2 : ∀ k, g (k + 1) = g' k) : Parts f g on := by
  rcases h with ⟨e, h0, h1, h2⟩ | ⟨h1, h2⟩
  · exact Or.inl ⟨e, h0, h1.step e1, h2.step e2⟩
  · exact Or.inr ⟨fun v hv => (h1 v hv).step e1, h2.step e2⟩
theorem Parts.now {f : Nat → Option (Int × Int × Int)} {g : Nat → Option Int} {on : Nat → Option (Int × Int × Int)} (e : Int) (h : e ≠ 0) (e1 : ∀ k, f (k + 1) = some (-1, -1, e)) (e2 : ∀ k, g (k + 1) = some e) : Parts f g on := Or.inl ⟨e, h, Ev.now e1, Ev.now e2⟩
theorem inB_true {n lo hi : Int} (h1 : lo ≤ n) (h2 : n < hi) : inB n lo hi = true := by unfold inB; rw [if_pos h1, decide_eq_true h2]
theorem inB_false {n lo hi : Int} (h : n < lo ∨ hi ≤ n) : inB n lo hi = false := by
  unfold inB
  by_cases h1 : n ≥ lo
  · rw [if_pos h1, decide_eq_false (by omega)]
  · rw [if_neg h1]
theorem cases_sim (L0 : List (List S128)) (L1 : List Int) (locks : Int) (L3 : List S134) (h3 : L3.length ≤ 32) :
    ∀ (m i : Nat), i + m = L3.length → Parts (fun k => shunterref10_Check.l1 k L3 L3.length i L0 L1 locks L3) (fun k => code_Program_parts.l1 k (L3.map c134) L3.length i (L0.map (List.map c128)) L1 locks (L3.map c134)) (fun k => shunterref10_Check.l2 k L0 L0.length 0 L0 L1 locks L3)
  | 0, i, hi => by
    refine Or.inr ⟨fun v hv => hv.step (fun k => ?_), Ev.now (fun k => ?_)⟩
    · rw [shunterref10_Check.l1, if_neg (by omega)]
    · rw [code_Program_parts.l1, if_neg (by omega)]
  | m + 1, i, hi => by
    have ih := cases_sim L0 L1 locks L3 h3 m (i + 1) (by omega)
    rw [← w64_nat (by omega)] at ih
    obtain ⟨⟨x, y, z⟩, hx⟩ : ∃ x, rd_T134 L3 i = x := ⟨_, rfl⟩
    have hx' : rd_T161 (L3.map c134) i = ⟨x, y, z⟩ := by rw [rd161, hx]; rfl
    have q1 : ∀ k, shunterref10_Check.l1 (k + 1) L3 L3.length i L0 L1 locks L3 = ((shunterref10_in.f x 0 3).bind fun t229 => (if t229 = true then (if x < 2 then ((shunterref10_in.f y 0 (L1.length : Int)).bind fun t230 => (if t230 = true then ((shunterref10_reg.f z).bind fun t231 => (if t231 = true then (shunterref10_Check.l1 k L3 L3.length (wrap64 (i + 1)) L0 L1 locks L3) else (some ((-1), (-1), 4)))) else (some ((-1), (-1), 4)))) else (shunterref10_Check.l1 k L3 L3.length (wrap64 (i + 1)) L0 L1 locks L3)) else (some ((-1), (-1), 4)))) := by
      intro k; rw [shunterref10_Check.l1, if_pos (by omega), if_pos (by omega), if_pos (by omega), hx]
    have q2 : ∀ k, code_Program_parts.l1 (k + 1) (L3.map c134) L3.length i (L0.map (List.map c128)) L1 locks (L3.map c134) = (if x < 0 then (some 4) else (if x > 2 then (some 4) else (if x = 2 then (code_Program_parts.l1 k (L3.map c134) L3.length (wrap64 (i + 1)) (L0.map (List.map c128)) L1 locks (L3.map c134)) else (if y < 0 then (some 4) else (if y ≥ (L1.length : Int) then (some 4) else (if z < 0 then (some 4) else (if z ≥ 8 then (some 4) else (code_Program_parts.l1 k (L3.map c134) L3.length (wrap64 (i + 1)) (L0.map (List.map c128)) L1 locks (L3.map c134))))))))) := by
      intro k; rw [code_Program_parts.l1, if_pos (by omega), if_pos (by omega), if_pos (by rw [List.length_map]; omega), hx']
    by_cases a1 : x < 0 ∨ 3 ≤ x
    · refine Parts.now 4 (by decide) (fun k => ?_) (fun k => ?_)
      · rw [q1, in_f _ _ _ _ (inB_false a1), Option.bind_some, if_neg (by decide)]
      · rw [q2]; repeat' split
        all_goals first | rfl | (exfalso; omega)
    by_cases a2 : x = 2
    · refine ih.step (fun k => ?_) (fun k => ?_)
      · rw [q1, in_f _ _ _ _ (inB_true (by omega) (by omega)), Option.bind_some, if_pos rfl, if_neg (by omega)]
      · rw [q2, if_neg (by omega), if_neg (by omega), if_pos a2]
    by_cases a3 : y < 0 ∨ (L1.length : Int) ≤ y
    · refine Parts.now 4 (by decide) (fun k => ?_) (fun k => ?_)
      · rw [q1, in_f _ _ _ _ (inB_true (by omega) (by omega)), Option.bind_some, if_pos rfl, if_pos (by omega), in_f _ _ _ _ (inB_false a3), Option.bind_some, if_neg (by decide)]
      · rw [q2, if_neg (by omega), if_neg (by omega), if_neg a2]; repeat' split
        all_goals first | rfl | (exfalso; omega)
    by_cases a4 : z < 0 ∨ 8 ≤ z
    · refine Parts.now 4 (by decide) (fun k => ?_) (fun k => ?_)
      · rw [q1, in_f _ _ _ _ (inB_true (by omega) (by omega)), Option.bind_some, if_pos rfl, if_pos (by omega), in_f _ _ _ _ (inB_true (by omega) (by omega)), Option.bind_some, if_pos rfl, reg_f _ _ (inB_false a4), Option.bind_some, if_neg (by decide)]
      · rw [q2, if_neg (by omega), if_neg (by omega), if_neg a2, if_neg (by omega), if_neg (by omega)]; repeat' split
        all_goals first | rfl | (exfalso; omega)
    refine ih.step (fun k => ?_) (fun k => ?_)
    · rw [q1, in_f _ _ _ _ (inB_true (by omega) (by omega)), Option.bind_some, if_pos rfl, if_pos (by omega), in_f _ _ _ _ (inB_true (by omega) (by omega)), Option.bind_some, if_pos rfl, reg_f _ _ (inB_true (by omega) (by omega)), Option.bind_some, if_pos rfl]
    · rw [q2, if_neg (by omega), if_neg (by omega), if_neg a2, if_neg (by omega), if_neg (by omega), if_neg (by omega), if_neg (by omega)]
theorem chans_sim (L0 : List (List S128)) (L1 : List Int) (locks : Int) (L3 : List S134) (h3 : L3.length ≤ 32) (h1 : L1.length ≤ 8) :
    ∀ (m i : Nat), i + m = L1.length → Parts (fun k => shunterref10_Check.l0 k L1 L1.length i L0 L1 locks L3) (fun k => code_Program_parts.l0 k L1 L1.length i (L0.map (List.map c128)) L1 locks (L3.map c134)) (fun k => shunterref10_Check.l2 k L0 L0.length 0 L0 L1 locks L3)
  | 0, i, hi => by
    refine (cases_sim L0 L1 locks L3 h3 L3.length 0 (by omega)).step (fun k => ?_) (fun k => ?_)
    · rw [shunterref10_Check.l0, if_neg (by omega)]; rfl
    · rw [code_Program_parts.l0, if_neg (by omega), List.length_map]; rfl
  | m + 1, i, hi => by
    have ih := chans_sim L0 L1 locks L3 h3 h1 m (i + 1) (by omega)
    rw [← w64_nat (by omega)] at ih
    obtain ⟨x, hx⟩ : ∃ x, rd L1 (i : Int) = x := ⟨_, rfl⟩
    by_cases a1 : x < 0 ∨ 17 ≤ x
    · refine Parts.now 4 (by decide) (fun k => ?_) (fun k => ?_)
      · rw [shunterref10_Check.l0, if_pos (by omega), if_pos (by omega), if_pos (by omega), hx, in_f _ _ _ _ (inB_false a1), Option.bind_some, if_neg (by decide)]
      · rw [code_Program_parts.l0, if_pos (by omega), if_pos (by omega), if_pos (by omega), hx]; repeat' split
        all_goals first | rfl | (exfalso; omega)
    refine ih.step (fun k => ?_) (fun k => ?_)
    · rw [shunterref10_Check.l0, if_pos (by omega), if_pos (by omega), if_pos (by omega), hx, in_f _ _ _ _ (inB_true (by omega) (by omega)), Option.bind_some, if_pos rfl]
    · rw [code_Program_parts.l0, if_pos (by omega), if_pos (by omega), if_pos (by omega), hx, if_neg (by omega), if_neg (by omega)]
theorem check_same (L0 : List (List S128)) (L1 : List Int) (locks : Int) (L3 : List S134) :
    Same (fun k => shunterref10_Check.f k L0 L1 locks L3) (fun k => code_Program_Check.f k (L0.map (List.map c128)) L1 locks (L3.map c134)) := by
  by_cases hbad : ((L0.length : Int) < 1 ∨ 17 ≤ (L0.length : Int)) ∨ (L1.length : Int) > 8 ∨ (L3.length : Int) > 32 ∨ (locks < 0 ∨ 9 ≤ locks)
  · refine ⟨-1, -1, 3, Ev.now (fun k => ?_), Ev.now (fun k => ?_)⟩
    · show shunterref10_Check.f (k + 1) L0 L1 locks L3 = _
      unfold shunterref10_Check.f
      by_cases b1 : (L0.length : Int) < 1 ∨ 17 ≤ (L0.length : Int)
      · rw [in_f _ _ _ _ (inB_false b1), Option.bind_some, if_neg (by decide), shunterref10_Check.j0, if_pos rfl]
      rw [in_f _ _ _ _ (inB_true (by omega) (by omega)), Option.bind_some, if_pos rfl]
      by_cases b2 : (L1.length : Int) > 8
      · rw [if_pos b2, shunterref10_Check.j0, if_pos rfl]
      rw [if_neg b2]
      by_cases b3 : (L3.length : Int) > 32
      · rw [if_pos b3, shunterref10_Check.j0, if_pos rfl]
      rw [if_neg b3, in_f _ _ _ _ (inB_false (by omega)), Option.bind_some, shunterref10_Check.j0, if_pos (by decide)]
    · show code_Program_Check.f (k + 1) (L0.map (List.map c128)) L1 locks (L3.map c134) = _
      have : code_Program_parts.f (k + 1) (L0.map (List.map c128)) L1 locks (L3.map c134) = some 3 := by
        unfold code_Program_parts.f
        rw [List.length_map, List.length_map]
        repeat' split
        all_goals first
          | (rw [code_Program_parts.j0, if_pos rfl]; done)
          | (rw [decide_eq_true (by omega), code_Program_parts.j0, if_pos rfl]; done)
          | (exfalso; omega)
      unfold code_Program_Check.f
      rw [this, Option.bind_some, if_neg (by decide)]; rfl
  have r1 : ∀ k, shunterref10_Check.f (k + 1) L0 L1 locks L3 = shunterref10_Check.l0 k L1 L1.length 0 L0 L1 locks L3 := by
    intro k
    unfold shunterref10_Check.f
    rw [in_f _ _ _ _ (inB_true (by omega) (by omega)), Option.bind_some, if_pos rfl, if_neg (by omega), if_neg (by omega), in_f _ _ _ _ (inB_true (by omega) (by omega)), Option.bind_some, shunterref10_Check.j0, if_neg (by decide)]
  have r2 : ∀ k, code_Program_parts.f (k + 1) (L0.map (List.map c128)) L1 locks (L3.map c134) = code_Program_parts.l0 k L1 L1.length 0 (L0.map (List.map c128)) L1 locks (L3.map c134) := by
    intro k
    unfold code_Program_parts.f
    rw [List.length_map, List.length_map, if_neg (by omega), if_neg (by omega), if_neg (by omega), if_neg (by omega), if_neg (by omega), decide_eq_false (by omega), code_Program_parts.j0, if_neg (by decide)]
  have hp := (chans_sim L0 L1 locks L3 (by omega) (by omega) L1.length 0 (by omega)).step (f := fun k => shunterref10_Check.f k L0 L1 locks L3) (g := fun k => code_Program_parts.f k (L0.map (List.map c128)) L1 locks (L3.map c134)) r1 r2
  rcases hp with ⟨e, h0, h1, K, h2⟩ | ⟨h1, K, h2⟩
  · refine ⟨-1, -1, e, h1, K, fun k hk => ?_⟩
    show code_Program_Check.f k (L0.map (List.map c128)) L1 locks (L3.map c134) = _
    have : code_Program_parts.f k (L0.map (List.map c128)) L1 locks (L3.map c134) = some e := h2 k hk
    unfold code_Program_Check.f
    rw [this, Option.bind_some, if_neg h0, show (e == 0) = false from beq_eq_false_iff_ne.2 h0]
  · obtain ⟨a, b, e, s1, K', s2⟩ := funs_sim L0 L1 locks L3 (by omega) (by omega) L0.length 0 (by omega)
    refine ⟨a, b, e, h1 _ s1, K + K', fun k hk => ?_⟩
    show code_Program_Check.f k (L0.map (List.map c128)) L1 locks (L3.map c134) = _
    have h2' : code_Program_parts.f k (L0.map (List.map c128)) L1 locks (L3.map c134) = some 0 := h2 k (by omega)
    have s2' := s2 k (by omega)
    unfold code_Program_Check.f
    rw [h2', Option.bind_some, if_pos rfl, List.length_map]
    exact s2'
theorem Ev.uniq {α : Type} {f : Nat → Option α} {u v : α} (h1 : Ev f u) (h2 : Ev f v) : u = v := by
  obtain ⟨K1, h1⟩ := h1
  obtain ⟨K2, h2⟩ := h2
  have a := h1 (K1 + K2) (by omega)
  have b := h2 (K1 + K2) (by omega)
  rw [a] at b
  exact Option.some.inj b
def okC (nc : Nat) (c : S134) : Prop := (0 ≤ c.f0 ∧ c.f0 < 3) ∧ (c.f0 < 2 → (0 ≤ c.f1 ∧ c.f1 < nc) ∧ (0 ≤ c.f2 ∧ c.f2 < 8))
structure Ok (L0 : List (List S128)) (L1 : List Int) (locks : Int) (L3 : List S134) : Prop where
  h0 : 1 ≤ L0.length ∧ L0.length ≤ 16
  h1 : L1.length ≤ 8
  h3 : L3.length ≤ 32
  hl : 0 ≤ locks ∧ locks ≤ 8
  chans : ∀ i, i < L1.length → 0 ≤ rd L1 (i : Nat) ∧ rd L1 (i : Nat) < 17
  cases_ : ∀ i, i < L3.length → okC L1.length (rd_T134 L3 (i : Nat))
  rows : ∀ i, i < L0.length → 1 ≤ (rd_L5 L0 (i : Nat)).length ∧ (rd_L5 L0 (i : Nat)).length ≤ 64
  ins : ∀ i, i < L0.length → ∀ j, j < (rd_L5 L0 (i : Nat)).length → insF L0.length L1.length locks L3.length (rd_L5 L0 (i : Nat)).length (rd_T128 (rd_L5 L0 (i : Nat)) (j : Nat)).f0 (rd_T128 (rd_L5 L0 (i : Nat)) (j : Nat)).f1 (rd_T128 (rd_L5 L0 (i : Nat)) (j : Nat)).f2 (rd_T128 (rd_L5 L0 (i : Nat)) (j : Nat)).f3 = 0
theorem ok_ins {L0 : List (List S128)} {L1 : List Int} {locks : Int} {L3 : List S134} (H : Ok L0 L1 locks L3) {v : Int × Int × Int} (i : Nat) (hi : i < L0.length)
    (cont : Ev (fun k => shunterref10_Check.l2 k L0 L0.length (wrap64 ((i : Int) + 1)) L0 L1 locks L3) v) :
    ∀ (m j : Nat), j + m = (rd_L5 L0 i).length → Ev (fun k => shunterref10_Check.l3 k i (rd_L5 L0 i) L0 L0.length i (rd_L5 L0 i) (rd_L5 L0 i).length j L0 L1 locks L3) v
  | 0, j, hj => cont.step fun k => by rw [shunterref10_Check.l3, if_neg (by omega)]
  | m + 1, j, hj => by
    have ih := ok_ins H i hi cont m (j + 1) (by omega)
    have hr := H.rows i hi
    rw [← w64_nat (by omega)] at ih
    refine ih.step fun k => ?_
    have hg : shunterref10_good.f L0 L1 locks L3 (rd_L5 L0 i) (rd_T128 (rd_L5 L0 i) j).f0 (rd_T128 (rd_L5 L0 i) j).f1 (rd_T128 (rd_L5 L0 i) j).f2 (rd_T128 (rd_L5 L0 i) j).f3 = some 0 := by
      unfold shunterref10_good.f; rw [if_pos H.h3, H.ins i hi j (by omega)]
    rw [shunterref10_Check.l3, if_pos (by omega), if_pos (by omega), if_pos (by omega), hg, Option.bind_some, if_pos rfl]
theorem ok_funs {L0 : List (List S128)} {L1 : List Int} {locks : Int} {L3 : List S134} (H : Ok L0 L1 locks L3) :
    ∀ (m i : Nat), i + m = L0.length → Ev (fun k => shunterref10_Check.l2 k L0 L0.length i L0 L1 locks L3) (0, 0, 0)
  | 0, i, hi => Ev.now fun k => by rw [shunterref10_Check.l2, if_neg (by omega)]
  | m + 1, i, hi => by
    have ih := ok_funs H m (i + 1) (by omega)
    have hr := H.rows i (by omega)
    have h0 := H.h0
    rw [← w64_nat (by omega)] at ih
    refine (ok_ins H i (by omega) ih (rd_L5 L0 i).length 0 (by omega)).step fun k => ?_
    rw [shunterref10_Check.l2, if_pos (by omega), if_pos (by omega), if_pos (by omega), in_f _ _ _ true (inB_true (by omega) (by omega)), Option.bind_some, if_pos rfl]; rfl
theorem ok_cases {L0 : List (List S128)} {L1 : List Int} {locks : Int} {L3 : List S134} (H : Ok L0 L1 locks L3) :
    ∀ (m i : Nat), i + m = L3.length → Ev (fun k => shunterref10_Check.l1 k L3 L3.length i L0 L1 locks L3) (0, 0, 0)
  | 0, i, hi => (ok_funs H L0.length 0 (by omega)).step fun k => by rw [shunterref10_Check.l1, if_neg (by omega)]; rfl
  | m + 1, i, hi => by
    have ih := ok_cases H m (i + 1) (by omega)
    have h3 := H.h3
    rw [← w64_nat (by omega)] at ih
    obtain ⟨c1, c2⟩ := H.cases_ i (by omega)
    refine ih.step fun k => ?_
    rw [shunterref10_Check.l1, if_pos (by omega), if_pos (by omega), if_pos (by omega), in_f _ _ _ true (inB_true (by omega) (by omega)), Option.bind_some, if_pos rfl]
    by_cases a : (rd_T134 L3 (i : Nat)).f0 < 2
    · obtain ⟨c3, c4⟩ := c2 a
      rw [if_pos a, in_f _ _ _ true (inB_true c3.1 c3.2), Option.bind_some, if_pos rfl, reg_f _ true (inB_true c4.1 c4.2), Option.bind_some, if_pos rfl]
    · rw [if_neg a]
theorem ok_chans {L0 : List (List S128)} {L1 : List Int} {locks : Int} {L3 : List S134} (H : Ok L0 L1 locks L3) :
    ∀ (m i : Nat), i + m = L1.length → Ev (fun k => shunterref10_Check.l0 k L1 L1.length i L0 L1 locks L3) (0, 0, 0)
  | 0, i, hi => (ok_cases H L3.length 0 (by omega)).step fun k => by rw [shunterref10_Check.l0, if_neg (by omega)]; rfl
  | m + 1, i, hi => by
    have ih := ok_chans H m (i + 1) (by omega)
    have h1 := H.h1
    rw [← w64_nat (by omega)] at ih
    have c1 := H.chans i (by omega)
    refine ih.step fun k => ?_
    rw [shunterref10_Check.l0, if_pos (by omega), if_pos (by omega), if_pos (by omega), in_f _ _ _ true (inB_true c1.1 c1.2), Option.bind_some, if_pos rfl]
theorem ok_check {L0 : List (List S128)} {L1 : List Int} {locks : Int} {L3 : List S134} (H : Ok L0 L1 locks L3) : Ev (fun k => code_Program_Check.f k (L0.map (List.map c128)) L1 locks (L3.map c134)) (0, 0, 0, true) := by
  have h0 := H.h0
  have h1 := H.h1
  have h3 := H.h3
  have hl := H.hl
  have hr : Ev (fun k => shunterref10_Check.f k L0 L1 locks L3) (0, 0, 0) := by
    refine (ok_chans H L1.length 0 (by omega)).step fun k => ?_
    show shunterref10_Check.f (k + 1) L0 L1 locks L3 = _
    unfold shunterref10_Check.f
    rw [in_f _ _ _ _ (inB_true (by omega) (by omega)), Option.bind_some, if_pos rfl, if_neg (by omega), if_neg (by omega), in_f _ _ _ _ (inB_true (by omega) (by omega)), Option.bind_some, shunterref10_Check.j0, if_neg (by decide)]; rfl
  obtain ⟨a, b, e, s1, s2⟩ := check_same L0 L1 locks L3
  have := Ev.uniq s1 hr
  injection this with q1 q2
  injection q2 with q2 q3
  subst q1; subst q2; subst q3
  exact s2
theorem own_ins (L0 : List (List S128)) (L1 : List Int) (locks : Int) (L3 : List S134) (acc : List (List S76)) (C : List Int) (l : Int) (i : Nat) (f : List S128) (hf : f.length ≤ 4398046511104) (hacc : acc.length < 5864062014805) {v : (List (List S76)) × List Int × Int × (List S161)}
    (cont : Ev (fun k => shunterlaw10_Own.l0 k L0 L0.length (wrap64 ((i : Int) + 1)) L0 L1 locks L3 (acc ++ [f.map c128]) C l) v) :
    ∀ (m j : Nat), j + m = f.length → Ev (fun k => shunterlaw10_Own.l1 k ((f.take j).map c128) L0 L0.length i f f.length j L0 L1 locks L3 acc C l) v
  | 0, j, hj => by
    refine cont.step fun k => ?_
    rw [shunterlaw10_Own.l1, if_neg (by omega), if_pos hacc, List.take_of_length_le (by omega)]
  | m + 1, j, hj => by
    have ih := own_ins L0 L1 locks L3 acc C l i f hf hacc cont m (j + 1) (by omega)
    rw [← w64_nat (by omega)] at ih
    refine ih.step fun k => ?_
    rw [shunterlaw10_Own.l1, if_pos (by omega), if_pos (by omega), if_pos (by omega), if_pos (by rw [List.length_map, List.length_take]; omega)]
    have : (f.take (j + 1)).map c128 = (f.take j).map c128 ++ [(⟨(rd_T128 f j).f0, (rd_T128 f j).f1, (rd_T128 f j).f2, (rd_T128 f j).f3⟩ : S76)] := by
      rw [List.take_add_one, List.map_append]
      congr 1
      unfold rd_T128
      rw [List.getD_eq_getElem?_getD, Int.toNat_natCast, List.getElem?_eq_getElem (show j < f.length by omega)]
      rfl
    rw [this]
theorem own_cases (acc : List (List S76)) (C : List Int) (l : Int) (L3 : List S134) (h3 : L3.length ≤ 5864062014805) :
    ∀ (m j : Nat), j + m = L3.length → Ev (fun k => shunterlaw10_Own.l2 k L3 L3.length j acc C l ((L3.take j).map c134)) (acc, C, l, L3.map c134)
  | 0, j, hj => Ev.now fun k => by rw [shunterlaw10_Own.l2, if_neg (by omega), List.take_of_length_le (by omega)]
  | m + 1, j, hj => by
    have ih := own_cases acc C l L3 h3 m (j + 1) (by omega)
    rw [← w64_nat (by omega)] at ih
    refine ih.step fun k => ?_
    rw [shunterlaw10_Own.l2, if_pos (by omega), if_pos (by omega), if_pos (by omega), if_pos (by rw [List.length_map, List.length_take]; omega)]
    have : (L3.take (j + 1)).map c134 = (L3.take j).map c134 ++ [(⟨(rd_T134 L3 j).f0, (rd_T134 L3 j).f1, (rd_T134 L3 j).f2⟩ : S161)] := by
      rw [List.take_add_one, List.map_append]
      congr 1
      unfold rd_T134
      rw [List.getD_eq_getElem?_getD, Int.toNat_natCast, List.getElem?_eq_getElem (show j < L3.length by omega)]
      rfl
    rw [this]
theorem own_funs (L0 : List (List S128)) (L1 : List Int) (locks : Int) (L3 : List S134) (C : List Int) (l : Int) (h0 : L0.length ≤ 5864062014805) (hr : ∀ f ∈ L0, f.length ≤ 4398046511104) (h3 : L3.length ≤ 5864062014805) :
    ∀ (m i : Nat), i + m = L0.length → Ev (fun k => shunterlaw10_Own.l0 k L0 L0.length i L0 L1 locks L3 ((L0.take i).map (List.map c128)) C l) (L0.map (List.map c128), C, l, L3.map c134)
  | 0, i, hi => by
    refine (own_cases (L0.map (List.map c128)) C l L3 h3 L3.length 0 (by omega)).step fun k => ?_
    rw [shunterlaw10_Own.l0, if_neg (by omega), List.take_of_length_le (by omega)]; rfl
  | m + 1, i, hi => by
    have ih := own_funs L0 L1 locks L3 C l h0 hr h3 m (i + 1) (by omega)
    rw [← w64_nat (by omega)] at ih
    have hx : rd_L5 L0 i = L0[i]'(by omega) := by
      unfold rd_L5
      rw [List.getD_eq_getElem?_getD, Int.toNat_natCast, List.getElem?_eq_getElem (show i < L0.length by omega)]
      rfl
    have e : (L0.take (i + 1)).map (List.map c128) = (L0.take i).map (List.map c128) ++ [(rd_L5 L0 i).map c128] := by
      rw [List.take_add_one, List.map_append, hx, List.getElem?_eq_getElem (show i < L0.length by omega)]
      rfl
    rw [e] at ih
    have := own_ins L0 L1 locks L3 ((L0.take i).map (List.map c128)) C l i (rd_L5 L0 i) (by rw [hx]; exact hr _ (List.getElem_mem _)) (by rw [List.length_map, List.length_take]; omega) ih (rd_L5 L0 i).length 0 (by omega)
    refine this.step fun k => ?_
    rw [shunterlaw10_Own.l0, if_pos (by omega), if_pos (by omega), if_pos (by omega)]; rfl
theorem own_f (L0 : List (List S128)) (L1 : List Int) (locks : Int) (L3 : List S134) (h0 : L0.length ≤ 5864062014805) (hr : ∀ f ∈ L0, f.length ≤ 4398046511104) (h1 : L1.length < 17592186044416) (h3 : L3.length ≤ 5864062014805) : Ev (fun k => shunterlaw10_Own.f k L0 L1 locks L3) (L0.map (List.map c128), L1, locks, L3.map c134) := by
  refine (own_funs L0 L1 locks L3 L1 locks h0 hr h3 L0.length 0 (by omega)).same fun k => ?_
  unfold shunterlaw10_Own.f
  rw [Option.bind_some, if_pos (by rw [List.length_nil]; omega)]
  rfl
end Go.Proofs.Ythlllcmffgdcmab.Code
end

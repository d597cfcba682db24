import Derived.Test.YthlllcmffgdcmabSrc9
namespace Go
open Go.RowKit
variable {P : Program}
/-- A row of one's own, laid behind an empty one. -/
theorem wpList_copy {ops : Array Oper} {rest : List Oper} {o : Oper} {a : Act} {Q : Exit → Act → World → Prop} {W : World} (hgd : o.guard = none) (s x : Operand) (t : TypeId)
    (ho : o.op = .call { callee := .builtin .append, args := #[s, x], argTypes := #[t, t] })
    (base : Nat) (e : TypeId) (i : TypeInfo) (z : Value) (size bytes : Nat) (ht : P.underlying t = some (.slice e)) (hi : P.info? e = some i) (hz : i.zero = some z)
    (hsize : i.size = size) (hby : i.bytes = bytes) (hzs : z.cells.size = size) (hsz : 0 < size)
    (H : Nat) (hs : a.eval s = .slice (some ⟨H, 0, none⟩) 0 0) (hown : W.ownsRow base e size (.slice (some ⟨H, 0, none⟩) 0 0) 0 [])
    (b2 n : Nat) (u : Value) (xs : List Value) (hx : a.eval x = u) (hrow : W.ownsRow b2 e size u n xs) (h1 : ∀ y ∈ xs, y.oneCell' = true)
    (h63 : n ≤ maxLen) (hbytes : n * bytes ≤ 140737488355328) (hbase : base ≤ W.heap.size)
    (h : ∀ A c w1, w1.ownsRow base e size (.slice A n c) n xs → W.grownBy w1 (some H) → wpList P ops Q rest (a.put o.dst (.slice A n c)) w1) : wpList P ops Q (o :: rest) a W := by
  have hrun : ∃ v1 w1, (Builtin.append_ #[t, t] o.type #[.slice (some ⟨H, 0, none⟩) 0 0, u]).run P W = .ok v1 w1 ∧ w1.ownsRow base e size v1 n xs ∧ W.grownBy w1 (some H) := by
    rcases hrow.2 with ⟨rfl, rfl⟩ | ⟨g, cap, cur, rfl, hb, hh, hc, hm, hcs, hct⟩
    · have hx0 : xs = [] := List.eq_nil_of_length_eq_zero (by simpa using hrow.1)
      subst hx0
      refine ⟨.slice (some ⟨H, 0, none⟩) 0 0, W, ?_, hown, World.grownBy.refl W _⟩
      simp [Builtin.append_, run_underlying ht, sizeOf, typeInfo, hi, Builtin.lenOf, Builtin.firstCells, storeCells]
    · have hnews : ∀ j y, xs[j]? = some y → W.cell? ((⟨g, 0, none⟩ : Addr).add j) = some y := fun j y hj => by
        have hadd : (⟨g, 0, none⟩ : Addr).add j = ⟨g, j, none⟩ := by unfold Addr.add; split <;> simp_all
        rw [hadd, cell_of_row W g j cur e (0, 0) hh]
        have hjl : j < n * size := by
          rcases Nat.lt_or_ge j (n * size) with h | h
          · exact h
          · rw [List.getElem?_eq_none (by rw [hrow.1]; exact h)] at hj; cases hj
        rw [← hct, List.getElem?_take_of_lt hjl, Array.getElem?_toList] at hj
        exact hj
      obtain ⟨v1, w1, hr, h2, h3, _⟩ := run_append_own_at (P := P) W base t o.type e i z size bytes ht hi hz hsize hby hzs hsz _ 0 [] hown ⟨g, 0, none⟩ n cap xs hrow.1 hnews h1 (by simpa using h63) (by simpa using hbytes) hbase
      exact ⟨v1, w1, hr, by simpa using h2, h3⟩
  obtain ⟨v1, w1, hr, hown1, hg⟩ := hrun
  have hform : ∃ A c, v1 = .slice A n c := by
    rcases hown1.2 with ⟨rfl, rfl⟩ | ⟨g, cap, _, rfl, _⟩
    · exact ⟨_, _, rfl⟩
    · exact ⟨_, _, rfl⟩
  obtain ⟨A, c, rfl⟩ := hform
  refine wpList_plain hgd fun K hK => ?_
  unfold Oper.wp execOp
  simp only [ho, resolve, invoke, builtin, Sem.run_bind, Sem.run_pure, Result.andThen_ok, List.map_toArray, List.map_cons, List.map_nil, hs, hx, hr]
  exact hK _ _ (h A c w1 hown1 hg)
end Go
namespace Go.Proofs.Ythlllcmffgdcmab.Src
open Go.RowKit Go.Proofs.YthlllcmffgdcmabW.PrintWords Go.Proofs.YthlllcmffgdcmabW.PrintLast Go.Proofs.YthlllcmffgdcmabW.PrintMore
set_option linter.unusedVariables false
set_option linter.unusedSimpArgs false

theorem own_empty (W : World) (base : Nat) (e : TypeId) (size : Nat) (hb : base ≤ W.heap.size) : (W.alloc (.cells #[] e)).ownsRow base e size (.slice (some ⟨W.heap.size, 0, none⟩) 0 0) 0 [] :=
  ⟨by simp, .inr ⟨W.heap.size, 0, #[], rfl, hb, blk_new W _, Nat.le_refl _, by simp [maxLen], by simp, by simp⟩⟩

set_option maxHeartbeats 1000000 in
theorem taken_calls (B s K L o : Nat) (vt : Value) (nt : Nat) (T : List (Int × Int)) (see : Value) (w : World) (h : Srce B w s K L o vt nt (recs T) see) (hT : nt ≤ 1000) : Calls Try.prog 24 #[.pointer (some ⟨s, 0, none⟩)] w fun e w' =>
    ∃ v, e = .returned v ∧ w'.ownsRow w.heap.size 25 2 v nt (recs T) ∧ Below w.heap.size w w' := by
  have h1 := hmf
  obtain ⟨j0, hj0, hz0, hz1, hz2⟩ := info_parts info25
  have HJ := Aside0.mk (And.intro hj0 (And.intro hz0 (And.intro hz1 hz2)))
  obtain ⟨A2, c2, rfl⟩ := own_slice h.row
  have k0 := some_alloc ((blk_cell h.blk 2).trans rfl : w.cell? ⟨s, 2, none⟩ = some (.slice A2 nt c2)) (.cells #[] 25)
  have HO := Aside0.mk (own_empty w w.heap.size 25 2 (Nat.le_refl _))
  have HR := Aside0.mk (h.row.alloc (.cells #[] 25))
  have HL := Aside0.mk (below_alloc (Below.refl w.heap.size w) (.cells #[] 25))
  have HT := Aside0.mk hT
  clear hj0 hz0 hz1 hz2 h
  go_enter Try.func24, Try.ntmps24
  go_wp2_with (at_builtin; refine wpList_copy rfl _ _ 45 rfl w.heap.size 25 j0 _ 2 16 Try.underlying45 HJ.out.1 HJ.out.2.1 HJ.out.2.2.1 HJ.out.2.2.2 rfl (by omega) w.heap.size rfl HO.out B nt _ (recs T) rfl HR.out (recs_one T) (by have := HT.out; unfold maxLen; omega) (by have := HT.out; omega) (by simp) ?_; intro A3 c3 w1 ho hg; have HO3 := Aside0.mk ho; have HL3 := Aside0.mk (HL.out.grown hg (by simp) (fun k hk => by injection hk with hk; omega)); clear ho hg)
  go_ret
  exact ⟨_, rfl, HO3.out, HL3.out⟩

set_option maxHeartbeats 1000000 in
theorem tape_calls (B n : Nat) (v : Value) (T : List (Int × Int)) (w : World) (h : w.ownsRow B 25 2 v n (recs T)) (hn : T.length = n) (hT : n ≤ 1000) : Calls Try.prog 23 #[v] w fun e w' =>
    ∃ s o vl, e = .returned (.pointer (some ⟨s, 0, none⟩)) ∧ Tap w.heap.size w' o T 0 vl ∧ Srce w.heap.size w' s 63 64 o (.slice none 0 0) 0 [] .nilFunc ∧ Below w.heap.size w w' := by
  have h1 := hmf
  obtain ⟨j0, hj0, hz0, hz1, hz2⟩ := info_parts info25
  have HJ := Aside0.mk (And.intro hj0 (And.intro hz0 (And.intro hz1 hz2)))
  obtain ⟨A2, c2, rfl⟩ := own_slice h
  have HO := Aside0.mk (own_empty w w.heap.size 25 2 (Nat.le_refl _))
  have HR := Aside0.mk (h.alloc (.cells #[] 25))
  have HL := Aside0.mk (below_alloc (Below.refl w.heap.size w) (.cells #[] 25))
  have HT := Aside0.mk hT
  have HN := Aside0.mk hn
  clear hj0 hz0 hz1 hz2 h hn
  go_enter Try.func23, Try.ntmps23
  go_wp2_with (at_builtin; refine wpList_copy rfl _ _ 45 rfl w.heap.size 25 j0 _ 2 16 Try.underlying45 HJ.out.1 HJ.out.2.1 HJ.out.2.2.1 HJ.out.2.2.2 rfl (by omega) w.heap.size rfl HO.out B n _ (recs T) rfl HR.out (recs_one T) (by have := HT.out; unfold maxLen; omega) (by have := HT.out; omega) (by simp) ?_; intro A3 c3 w1 ho hg; have HO3 := Aside0.mk ho; have HL3 := Aside0.mk (HL.out.grown hg (by simp) (fun k hk => by injection hk with hk; omega)); clear ho hg)
  go_ret
  obtain rfl := HN.out
  refine ⟨w1.heap.size + 1, w1.heap.size, .slice A3 T.length c3, rfl, ⟨HL3.out.size, blk_alloc (blk_new w1 _) _, (HO3.out.alloc _).alloc _⟩, ⟨Nat.le_trans HL3.out.size (by omega), ?_, own_nil _ _ _ _⟩, (HL3.out.alloc HL3.out.size _).alloc (Nat.le_trans HL3.out.size (by simp)) _⟩
  have := blk_new (w1.alloc (.cells #[.slice A3 T.length c3, .int .i64 0] 147)) (.cells #[.func (.func 63) #[.pointer (some ⟨w1.heap.size, 0, none⟩)] #[], .func (.func 64) #[.pointer (some ⟨w1.heap.size, 0, none⟩)] #[], .slice none 0 0, .nilFunc] 144)
  rw [show (w1.alloc (.cells #[.slice A3 T.length c3, .int .i64 0] 147)).heap.size = w1.heap.size + 1 by simp] at this
  exact this
end Go.Proofs.Ythlllcmffgdcmab.Src

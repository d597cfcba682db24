import Derived.Test.YthlllcmffgdcmabSrc4
namespace Go.Proofs.Ythlllcmffgdcmab.Src
open Go.RowKit Go.Proofs.YthlllcmffgdcmabW.PrintWords Go.Proofs.YthlllcmffgdcmabW.PrintLast Go.Proofs.YthlllcmffgdcmabW.PrintMore
set_option linter.unusedVariables false
set_option linter.unusedSimpArgs false

theorem results_ttc {P : Program} {fn : Func} {p u v : Tmp} {ty : TypeId} (h : fn.results = #[.tmp u, .tmp v, .cell p ty]) (tmps : Array Value) (w : World) (g : Nat) (t : TypeId) (cs : Array Value) (fr : Nat × Nat) (d : TypeDesc)
    (hp : tmps.getD p undef = .pointer (some ⟨g, 0, none⟩)) (hg : w.heap[g]? = some (.cells cs t fr))
    (hu : P.underlying ty = some d) (hd : (match d with | .struct _ | .array _ _ => true | _ => false) = true) (hi : (P.info? ty).map (·.size) = some cs.size) :
    (results fn tmps).run P w = .ok (.tuple #[tmps.getD u undef, tmps.getD v undef, .agg cs]) w := by
  have hp' : tmps[p]?.getD undef = .pointer (some ⟨g, 0, none⟩) := by simpa using hp
  simp [results, h, hp', asAddr, run_loadVar_row w g t ty cs fr d hg hu hd hi]

/-- The world behind a draw's own variables. -/
def dW (w : World) (s : Nat) (kind n : Int) : World :=
  ((((w.alloc (.cells #[.pointer (some ⟨s, 0, none⟩)] 33)).alloc (.cells #[.int .i64 kind] 3)).alloc (.cells #[.int .i64 n] 3)).alloc (.cells zU 27)).alloc (.cells #[.int .i64 0] 3)

theorem dW_size (w : World) (s : Nat) (kind n : Int) : (dW w s kind n).heap.size = w.heap.size + 5 := by simp [dW]
theorem dW_below (w : World) (s : Nat) (kind n : Int) : Below w.heap.size w (dW w s kind n) := below_alloc (below_alloc (below_alloc (below_alloc (below_alloc (Below.refl _ _) _) _) _) _) _
theorem new_at (w : World) (o : Obj) (k : Nat) (h : w.heap.size = k) : (w.alloc o).heap[k]? = some o := by subst h; exact blk_new w o
theorem dW_0 (w : World) (s : Nat) (kind n : Int) : (dW w s kind n).heap[w.heap.size]? = some (.cells #[.pointer (some ⟨s, 0, none⟩)] 33 (0, 0)) := blk_alloc (blk_alloc (blk_alloc (blk_alloc (new_at w _ _ rfl) _) _) _) _
theorem dW_1 (w : World) (s : Nat) (kind n : Int) : (dW w s kind n).heap[w.heap.size + 1]? = some (.cells #[.int .i64 kind] 3 (0, 0)) := blk_alloc (blk_alloc (blk_alloc (new_at _ _ _ (by simp)) _) _) _
theorem dW_2 (w : World) (s : Nat) (kind n : Int) : (dW w s kind n).heap[w.heap.size + 1 + 1]? = some (.cells #[.int .i64 n] 3 (0, 0)) := blk_alloc (blk_alloc (new_at _ _ _ (by simp)) _) _
theorem dW_3 (w : World) (s : Nat) (kind n : Int) : (dW w s kind n).heap[w.heap.size + 1 + 1 + 1]? = some (.cells zU 27 (0, 0)) := blk_alloc (new_at _ _ _ (by simp)) _
theorem dW_4 (w : World) (s : Nat) (kind n : Int) : (dW w s kind n).heap[w.heap.size + 1 + 1 + 1 + 1]? = some (.cells #[.int .i64 0] 3 (0, 0)) := new_at _ _ _ (by simp)
def dCaps (w : World) : Array Value := #[.pointer (some ⟨w.heap.size, 0, none⟩), .pointer (some ⟨w.heap.size + 1, 0, none⟩), .pointer (some ⟨w.heap.size + 1 + 1, 0, none⟩), .pointer (some ⟨w.heap.size + 1 + 1 + 1 + 1, 0, none⟩)]

set_option maxHeartbeats 1000000 in
set_option maxRecDepth 100000 in
theorem draw21 (s : Nat) (kind n x fin ua ub uc ud ue : Int) (w : World) (P : World → Prop)
    (hg : Calls Try.prog 16 #[.func (.func 61) #[] (dCaps w)] (dW w s kind n) fun e w' => e = .returned (.tuple #[.int .i64 fin, .agg #[.int .i64 ua, .int .i64 ub, .int .i64 uc, .int .i64 ud, .int .u64 ue]]) ∧ P w' ∧ w'.heap[w.heap.size + 1 + 1 + 1]? = some (.cells zU 27 (0, 0)) ∧ w'.heap[w.heap.size + 1 + 1 + 1 + 1]? = some (.cells #[.int .i64 x] 3 (0, 0))) :
    Calls Try.prog 21 #[.pointer (some ⟨s, 0, none⟩), .int .i64 kind, .int .i64 n] w fun e w' =>
      e = .returned (.tuple #[.int .i64 x, .int .i64 fin, .agg #[.int .i64 ua, .int .i64 ub, .int .i64 uc, .int .i64 ud, .int .u64 ue]]) ∧ ∃ w1, P w1 ∧ Tame w1 w' ∧ Below w.heap.size w1 w' := by
  have h1 := hmf
  have HG := Aside0.mk hg
  clear hg
  go_enter Try.func21, Try.ntmps21
  go_wp2_with (go_at_call 16; refine HG.out.mono ?_; rintro e w1 ⟨rfl, hp, h3, h4⟩; have HP := Aside0.mk hp; have H3 := Aside0.mk h3; have H4 := Aside0.mk h4; clear hp h3 h4)
  have HD := Aside0.mk (blk_alloc H3.out (.cells #[.int .i64 ua, .int .i64 ub, .int .i64 uc, .int .i64 ud, .int .u64 ue] 27))
  have HV := Aside0.mk (blk_alloc H4.out (.cells #[.int .i64 ua, .int .i64 ub, .int .i64 uc, .int .i64 ud, .int .u64 ue] 27))
  have HU := Aside0.mk (blk_new w1 (.cells #[.int .i64 ua, .int .i64 ub, .int .i64 uc, .int .i64 ud, .int .u64 ue] 27))
  have HT := Aside0.mk ((Tame.refl w1).alloc (.cells #[.int .i64 ua, .int .i64 ub, .int .i64 uc, .int .i64 ud, .int .u64 ue] 27))
  have HB := Aside0.mk ((Below.refl w.heap.size w1).alloc (by have := blk_lt H3.out; omega) (.cells #[.int .i64 ua, .int .i64 ub, .int .i64 uc, .int .i64 ud, .int .u64 ue] 27))
  generalize w1.heap.size = z at HU ⊢
  generalize w1.alloc (.cells #[.int .i64 ua, .int .i64 ub, .int .i64 uc, .int .i64 ud, .int .u64 ue] 27) = w2 at HD HV HU HT HB ⊢
  have v0 : w2.cell? ⟨w.heap.size + 1 + 1 + 1 + 1, 0, none⟩ = some (.int .i64 x) := (blk_cell HV.out 0).trans rfl
  have u0 : w2.cell? ⟨z, 0, none⟩ = some (.int .i64 ua) := (blk_cell HU.out 0).trans rfl
  have u1 : w2.cell? ⟨z, 1, none⟩ = some (.int .i64 ub) := (blk_cell HU.out 1).trans rfl
  have u2 : w2.cell? ⟨z, 2, none⟩ = some (.int .i64 uc) := (blk_cell HU.out 2).trans rfl
  have u3 : w2.cell? ⟨z, 3, none⟩ = some (.int .i64 ud) := (blk_cell HU.out 3).trans rfl
  have u4 : w2.cell? ⟨z, 4, none⟩ = some (.int .u64 ue) := (blk_cell HU.out 4).trans rfl
  go_still_tail 5, (by kernel_rfl)
  change wpList _ _ _ _ _ w2.drew
  have r0 : w2.drew.cell? ⟨w.heap.size + 1 + 1 + 1, 0, none⟩ = some (.int .i64 0) := (blk_cell HD.out 0).trans rfl
  have g0 := blk_frozen (blk_drew HD.out) 0
  have r1 : w2.drew.cell? ⟨w.heap.size + 1 + 1 + 1, 1, none⟩ = some (.int .i64 0) := (blk_cell HD.out 1).trans rfl
  have g1 := blk_frozen (blk_drew HD.out) 1
  have r2 : w2.drew.cell? ⟨w.heap.size + 1 + 1 + 1, 2, none⟩ = some (.int .i64 0) := (blk_cell HD.out 2).trans rfl
  have g2 := blk_frozen (blk_drew HD.out) 2
  have r3 : w2.drew.cell? ⟨w.heap.size + 1 + 1 + 1, 3, none⟩ = some (.int .i64 0) := (blk_cell HD.out 3).trans rfl
  have g3 := blk_frozen (blk_drew HD.out) 3
  have r4 : w2.drew.cell? ⟨w.heap.size + 1 + 1 + 1, 4, none⟩ = some (.int .u64 0) := (blk_cell HD.out 4).trans rfl
  have g4 := blk_frozen (blk_drew HD.out) 4
  clear v0 u0 u1 u2 u3 u4
  have HDd := Aside0.mk (blk_drew HD.out)
  have HTd := Aside0.mk (HT.out.drew)
  have HBd := Aside0.mk (HB.out.drew)
  generalize w2.drew = w3 at r0 r1 r2 r3 r4 g0 g1 g2 g3 g4 HDd HTd HBd ⊢
  go_wp2
  refine bodyPost_ret (results_ttc (P := Try.prog) rfl _ (set5 w3 (w.heap.size + 1 + 1 + 1) (.int .i64 ua) (.int .i64 ub) (.int .i64 uc) (.int .i64 ud) (.int .u64 ue)) (w.heap.size + 1 + 1 + 1) 27 #[.int .i64 ua, .int .i64 ub, .int .i64 uc, .int .i64 ud, .int .u64 ue] (0, 0) _ rfl (set5_blk HDd.out) Try.underlying27 rfl (by kernel_rfl)) rfl ⟨rfl, w1, HP.out, set5_tame HTd.out HDd.out, set5_below HBd.out (by omega)⟩
end Go.Proofs.Ythlllcmffgdcmab.Src

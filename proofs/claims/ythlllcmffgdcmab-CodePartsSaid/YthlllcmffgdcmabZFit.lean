/- What fit answers: an instruction that may be. -/
import Derived.Test.YthlllcmffgdcmabZFita
import Derived.Test.YthlllcmffgdcmabZFitb
import Derived.Test.YthlllcmffgdcmabZFitc
import Derived.Test.YthlllcmffgdcmabZFitd
section
namespace Go.Proofs.Ythlllcmffgdcmab.Code
open Go.RowKit Go.Proofs.YthlllcmffgdcmabW.PrintWords Go.Proofs.YthlllcmffgdcmabW.PrintLast Go.Proofs.YthlllcmffgdcmabW.PrintMore
set_option linter.unusedVariables false
set_option linter.unusedSimpArgs false
theorem fit_calls (nf nc ncs nfl : Nat) (A0 A1 A2 A3 : Option Addr) (c0 c1 c2 c3 : Nat) (locks op a b c : Int) (hn : Few nf nc ncs nfl locks) (w : World) :
    Calls Try.prog 70 #[.agg #[.slice A0 nf c0, .slice A1 nc c1, .int .i64 locks, .slice A3 ncs c3], .slice A2 nfl c2, .agg #[.int .i64 op, .int .i64 a, .int .i64 b, .int .i64 c]] w fun e w' => ∃ r0 r1 r2 r3, e = .returned (.agg #[.int .i64 r0, .int .i64 r1, .int .i64 r2, .int .i64 r3]) ∧ Below w.heap.size w w' ∧ insF nf nc locks ncs nfl r0 r1 r2 r3 = 0 := by
  obtain ⟨o, ho⟩ : ∃ o, modF op 23 = o := ⟨_, rfl⟩
  have h := modF_in (n := op) (m := 23) (by decide) (by decide)
  rw [ho] at h
  by_cases ha : o = 1 ∨ o = 2 ∨ o = 3 ∨ o = 4 ∨ o = 5 ∨ o = 6
  · exact fit_a nf nc ncs nfl A0 A1 A2 A3 c0 c1 c2 c3 locks op a b c o ho ha hn w
  by_cases hb : o = 7 ∨ o = 8 ∨ o = 10 ∨ o = 17 ∨ o = 20 ∨ o = 21 ∨ o = 22 ∨ o = 0 ∨ o = 12
  · exact fit_b nf nc ncs nfl A0 A1 A2 A3 c0 c1 c2 c3 locks op a b c o ho hb hn w
  by_cases hc : o = 9 ∨ o = 11 ∨ o = 16 ∨ o = 18 ∨ o = 19
  · exact fit_c nf nc ncs nfl A0 A1 A2 A3 c0 c1 c2 c3 locks op a b c o ho hc hn w
  exact fit_d nf nc ncs nfl A0 A1 A2 A3 c0 c1 c2 c3 locks op a b c o ho (by omega) hn w
end Go.Proofs.Ythlllcmffgdcmab.Code
end

/-
  No cell of these rows narrows 'for every input' (looked for: loops, veiled, ifaces, maps, wideKeys, modest, calm, conditions, laid).
  DERIVED. THE GIVEN ROWS OF THIS SEAT. 12 by the template 'for every input the law returns true; each argument reads behind the call as it read before'; 0 by the template 'total and deterministic' (their statements: YthdnlhcepndncaaTotals.lean).
  GIVEN WITH THE SEED: the statements are not yours to turn. If you find one false, say at which input.
  Laid BY PROGRAM, IN A SANDBOX (cutbox-rows.mjs): the forced cells as the released guide's own fill.sh prints them over the translation 2f05dee753e6dd57… (all of the seat's roots in one cut). By AI agents, Wed Nov 11 2026. No macro, syntax, notation, axiom, sorry.
-/
import Derived.Test.YthdnlhcepndncaaChecked
import GoSem.Claim
import GoSem.ClaimJoined
import GoSem.ClaimMapViews
import Derived.JoinedTies
import Derived.KernelRfl
namespace Go.Proofs.Ythdnlhcepndncaa
/- THE CELL 'sum', in the pinned program and in every row, IS THE sha256 OF THE DUMP (.gsa) THAT YthdnlhcepndncaaProg.lean LOADS. Nothing in Lean hashes anything: it is a label: what it is worth is what the hold of that sum in a sandbox is worth. -/
noncomputable def Try.pinned : Pinned := { name := "ythdnlhcepndncaa", sum := "2f05dee753e6dd57df2ed8e6787321593b56abcdc0e6e909b8a6ad441c1660e4", checked := Try.checked }
namespace Rows
def none {H : Type} : Left H := { results := [], args := [] }

/-- 'shunterlaw14.LocksOne': WHATEVER THE INPUT: true; the input reads as it did. -/
def locksOneSpec : ChangeSpec := { name := "locksOne", fn := fun _ => fun
  | [d1, d2] => { results := [.lit (.bool true)], args := [d1, d2] }
  | _ => none }
def locksOneRow : OpenClaim := { program := "ythdnlhcepndncaa", sum := "2f05dee753e6dd57df2ed8e6787321593b56abcdc0e6e909b8a6ad441c1660e4", func := "shunter/shunterlaw14.LocksOne", spec := "locksOne", apart := false }
def LocksOneSaid : Prop := locksOneRow.holds Try.pinned (OpenSpec.ofChange locksOneSpec)

/-- ITS FALSE NEIGHBOUR: 'it returns false'. Refute it at one input. -/
def locksOneWrong : ChangeSpec := { name := "locksOne", fn := fun _ => fun
  | [d1, d2] => { results := [.lit (.bool false)], args := [d1, d2] }
  | _ => none }
def LocksOneWrongFalsely : Prop := locksOneRow.holds Try.pinned (OpenSpec.ofChange locksOneWrong)

/-- 'shunterlaw14.LocksMany': WHATEVER THE INPUT: true; the input reads as it did. -/
def locksManySpec : ChangeSpec := { name := "locksMany", fn := fun _ => fun
  | [d1, d2] => { results := [.lit (.bool true)], args := [d1, d2] }
  | _ => none }
def locksManyRow : OpenClaim := { program := "ythdnlhcepndncaa", sum := "2f05dee753e6dd57df2ed8e6787321593b56abcdc0e6e909b8a6ad441c1660e4", func := "shunter/shunterlaw14.LocksMany", spec := "locksMany", apart := false }
def LocksManySaid : Prop := locksManyRow.holds Try.pinned (OpenSpec.ofChange locksManySpec)

/-- ITS FALSE NEIGHBOUR: 'it returns false'. Refute it at one input. -/
def locksManyWrong : ChangeSpec := { name := "locksMany", fn := fun _ => fun
  | [d1, d2] => { results := [.lit (.bool false)], args := [d1, d2] }
  | _ => none }
def LocksManyWrongFalsely : Prop := locksManyRow.holds Try.pinned (OpenSpec.ofChange locksManyWrong)

/-- 'shunterlaw14.LocksPlays': WHATEVER THE INPUT: true; the input reads as it did. -/
def locksPlaysSpec : ChangeSpec := { name := "locksPlays", fn := fun _ => fun
  | [d1, d2, d3] => { results := [.lit (.bool true)], args := [d1, d2, d3] }
  | _ => none }
def locksPlaysRow : OpenClaim := { program := "ythdnlhcepndncaa", sum := "2f05dee753e6dd57df2ed8e6787321593b56abcdc0e6e909b8a6ad441c1660e4", func := "shunter/shunterlaw14.LocksPlays", spec := "locksPlays", apart := false }
def LocksPlaysSaid : Prop := locksPlaysRow.holds Try.pinned (OpenSpec.ofChange locksPlaysSpec)

/-- ITS FALSE NEIGHBOUR: 'it returns false'. Refute it at one input. -/
def locksPlaysWrong : ChangeSpec := { name := "locksPlays", fn := fun _ => fun
  | [d1, d2, d3] => { results := [.lit (.bool false)], args := [d1, d2, d3] }
  | _ => none }
def LocksPlaysWrongFalsely : Prop := locksPlaysRow.holds Try.pinned (OpenSpec.ofChange locksPlaysWrong)

/-- 'shunterlaw01.LebReads': WHATEVER THE INPUT: true; the input reads as it did. -/
def lebReadsSpec : ChangeSpec := { name := "lebReads", fn := fun _ => fun
  | [d1, d2] => { results := [.lit (.bool true)], args := [d1, d2] }
  | _ => none }
def lebReadsRow : OpenClaim := { program := "ythdnlhcepndncaa", sum := "2f05dee753e6dd57df2ed8e6787321593b56abcdc0e6e909b8a6ad441c1660e4", func := "shunter/shunterlaw01.LebReads", spec := "lebReads", apart := false }
def LebReadsSaid : Prop := lebReadsRow.holds Try.pinned (OpenSpec.ofChange lebReadsSpec)

/-- ITS FALSE NEIGHBOUR: 'it returns false'. Refute it at one input. -/
def lebReadsWrong : ChangeSpec := { name := "lebReads", fn := fun _ => fun
  | [d1, d2] => { results := [.lit (.bool false)], args := [d1, d2] }
  | _ => none }
def LebReadsWrongFalsely : Prop := lebReadsRow.holds Try.pinned (OpenSpec.ofChange lebReadsWrong)

/-- 'shunterlaw01.LebSigns': WHATEVER THE INPUT: true; the input reads as it did. -/
def lebSignsSpec : ChangeSpec := { name := "lebSigns", fn := fun _ => fun
  | [d1, d2] => { results := [.lit (.bool true)], args := [d1, d2] }
  | _ => none }
def lebSignsRow : OpenClaim := { program := "ythdnlhcepndncaa", sum := "2f05dee753e6dd57df2ed8e6787321593b56abcdc0e6e909b8a6ad441c1660e4", func := "shunter/shunterlaw01.LebSigns", spec := "lebSigns", apart := false }
def LebSignsSaid : Prop := lebSignsRow.holds Try.pinned (OpenSpec.ofChange lebSignsSpec)

/-- ITS FALSE NEIGHBOUR: 'it returns false'. Refute it at one input. -/
def lebSignsWrong : ChangeSpec := { name := "lebSigns", fn := fun _ => fun
  | [d1, d2] => { results := [.lit (.bool false)], args := [d1, d2] }
  | _ => none }
def LebSignsWrongFalsely : Prop := lebSignsRow.holds Try.pinned (OpenSpec.ofChange lebSignsWrong)

/-- 'shunterlaw01.LebBack': WHATEVER THE INPUT: true; the input reads as it did. -/
def lebBackSpec : ChangeSpec := { name := "lebBack", fn := fun _ => fun
  | [d1, d2, d3] => { results := [.lit (.bool true)], args := [d1, d2, d3] }
  | _ => none }
def lebBackRow : OpenClaim := { program := "ythdnlhcepndncaa", sum := "2f05dee753e6dd57df2ed8e6787321593b56abcdc0e6e909b8a6ad441c1660e4", func := "shunter/shunterlaw01.LebBack", spec := "lebBack", recurses := true, apart := false }
def LebBackSaid : Prop := lebBackRow.holds Try.pinned (OpenSpec.ofChange lebBackSpec)

/-- ITS FALSE NEIGHBOUR: 'it returns false'. Refute it at one input. -/
def lebBackWrong : ChangeSpec := { name := "lebBack", fn := fun _ => fun
  | [d1, d2, d3] => { results := [.lit (.bool false)], args := [d1, d2, d3] }
  | _ => none }
def LebBackWrongFalsely : Prop := lebBackRow.holds Try.pinned (OpenSpec.ofChange lebBackWrong)

/-- 'shunterlaw01.LebRow': WHATEVER THE INPUT: true; the input reads as it did. -/
def lebRowSpec : ChangeSpec := { name := "lebRow", fn := fun _ => fun
  | [d] => { results := [.lit (.bool true)], args := [d] }
  | _ => none }
def lebRowRow : OpenClaim := { program := "ythdnlhcepndncaa", sum := "2f05dee753e6dd57df2ed8e6787321593b56abcdc0e6e909b8a6ad441c1660e4", func := "shunter/shunterlaw01.LebRow", spec := "lebRow", apart := false }
def LebRowSaid : Prop := lebRowRow.holds Try.pinned (OpenSpec.ofChange lebRowSpec)

/-- ITS FALSE NEIGHBOUR: 'it returns false'. Refute it at one input. -/
def lebRowWrong : ChangeSpec := { name := "lebRow", fn := fun _ => fun
  | [d] => { results := [.lit (.bool false)], args := [d] }
  | _ => none }
def LebRowWrongFalsely : Prop := lebRowRow.holds Try.pinned (OpenSpec.ofChange lebRowWrong)

/-- 'shunterlaw03.CrcSums': WHATEVER THE INPUT: true; the input reads as it did. -/
def crcSumsSpec : ChangeSpec := { name := "crcSums", fn := fun _ => fun
  | [d1, d2, d3] => { results := [.lit (.bool true)], args := [d1, d2, d3] }
  | _ => none }
def crcSumsRow : OpenClaim := { program := "ythdnlhcepndncaa", sum := "2f05dee753e6dd57df2ed8e6787321593b56abcdc0e6e909b8a6ad441c1660e4", func := "shunter/shunterlaw03.CrcSums", spec := "crcSums", apart := false }
def CrcSumsSaid : Prop := crcSumsRow.holds Try.pinned (OpenSpec.ofChange crcSumsSpec)

/-- ITS FALSE NEIGHBOUR: 'it returns false'. Refute it at one input. -/
def crcSumsWrong : ChangeSpec := { name := "crcSums", fn := fun _ => fun
  | [d1, d2, d3] => { results := [.lit (.bool false)], args := [d1, d2, d3] }
  | _ => none }
def CrcSumsWrongFalsely : Prop := crcSumsRow.holds Try.pinned (OpenSpec.ofChange crcSumsWrong)

/-- 'shunterlaw03.CrcBurst': WHATEVER THE INPUT: true; the input reads as it did. -/
def crcBurstSpec : ChangeSpec := { name := "crcBurst", fn := fun _ => fun
  | [d1, d2, d3] => { results := [.lit (.bool true)], args := [d1, d2, d3] }
  | _ => none }
def crcBurstRow : OpenClaim := { program := "ythdnlhcepndncaa", sum := "2f05dee753e6dd57df2ed8e6787321593b56abcdc0e6e909b8a6ad441c1660e4", func := "shunter/shunterlaw03.CrcBurst", spec := "crcBurst", apart := false }
def CrcBurstSaid : Prop := crcBurstRow.holds Try.pinned (OpenSpec.ofChange crcBurstSpec)

/-- ITS FALSE NEIGHBOUR: 'it returns false'. Refute it at one input. -/
def crcBurstWrong : ChangeSpec := { name := "crcBurst", fn := fun _ => fun
  | [d1, d2, d3] => { results := [.lit (.bool false)], args := [d1, d2, d3] }
  | _ => none }
def CrcBurstWrongFalsely : Prop := crcBurstRow.holds Try.pinned (OpenSpec.ofChange crcBurstWrong)

/-- 'shunterlaw03.CrcOrder': WHATEVER THE INPUT: true; the input reads as it did. -/
def crcOrderSpec : ChangeSpec := { name := "crcOrder", fn := fun _ => fun
  | [d1, d2, d3] => { results := [.lit (.bool true)], args := [d1, d2, d3] }
  | _ => none }
def crcOrderRow : OpenClaim := { program := "ythdnlhcepndncaa", sum := "2f05dee753e6dd57df2ed8e6787321593b56abcdc0e6e909b8a6ad441c1660e4", func := "shunter/shunterlaw03.CrcOrder", spec := "crcOrder", apart := false }
def CrcOrderSaid : Prop := crcOrderRow.holds Try.pinned (OpenSpec.ofChange crcOrderSpec)

/-- ITS FALSE NEIGHBOUR: 'it returns false'. Refute it at one input. -/
def crcOrderWrong : ChangeSpec := { name := "crcOrder", fn := fun _ => fun
  | [d1, d2, d3] => { results := [.lit (.bool false)], args := [d1, d2, d3] }
  | _ => none }
def CrcOrderWrongFalsely : Prop := crcOrderRow.holds Try.pinned (OpenSpec.ofChange crcOrderWrong)

/-- 'shunterlaw04.StoreSafe': WHATEVER THE INPUT: true; the input reads as it did. -/
def storeSafeSpec : ChangeSpec := { name := "storeSafe", fn := fun _ => fun
  | [d1, d2, d3, d4] => { results := [.lit (.bool true)], args := [d1, d2, d3, d4] }
  | _ => none }
def storeSafeRow : OpenClaim := { program := "ythdnlhcepndncaa", sum := "2f05dee753e6dd57df2ed8e6787321593b56abcdc0e6e909b8a6ad441c1660e4", func := "shunter/shunterlaw04.StoreSafe", spec := "storeSafe", apart := false }
def StoreSafeSaid : Prop := storeSafeRow.holds Try.pinned (OpenSpec.ofChange storeSafeSpec)

/-- ITS FALSE NEIGHBOUR: 'it returns false'. Refute it at one input. -/
def storeSafeWrong : ChangeSpec := { name := "storeSafe", fn := fun _ => fun
  | [d1, d2, d3, d4] => { results := [.lit (.bool false)], args := [d1, d2, d3, d4] }
  | _ => none }
def StoreSafeWrongFalsely : Prop := storeSafeRow.holds Try.pinned (OpenSpec.ofChange storeSafeWrong)

/-- 'shunterlaw04.StoreCuts': WHATEVER THE INPUT: true; the input reads as it did. -/
def storeCutsSpec : ChangeSpec := { name := "storeCuts", fn := fun _ => fun
  | [d1, d2] => { results := [.lit (.bool true)], args := [d1, d2] }
  | _ => none }
def storeCutsRow : OpenClaim := { program := "ythdnlhcepndncaa", sum := "2f05dee753e6dd57df2ed8e6787321593b56abcdc0e6e909b8a6ad441c1660e4", func := "shunter/shunterlaw04.StoreCuts", spec := "storeCuts", apart := false }
def StoreCutsSaid : Prop := storeCutsRow.holds Try.pinned (OpenSpec.ofChange storeCutsSpec)

/-- ITS FALSE NEIGHBOUR: 'it returns false'. Refute it at one input. -/
def storeCutsWrong : ChangeSpec := { name := "storeCuts", fn := fun _ => fun
  | [d1, d2] => { results := [.lit (.bool false)], args := [d1, d2] }
  | _ => none }
def StoreCutsWrongFalsely : Prop := storeCutsRow.holds Try.pinned (OpenSpec.ofChange storeCutsWrong)

/- THE SECOND FORM. 'bulk': how many values and letters a reading holds, each counted each time it is reached (what is shared counts as often as it is met; a slice's spare places count too). A statement '..UptoSaid' is the law's where the arguments, and the package variables that the reading takes, are together of bulk at most 1048576: NARROWER than '..Said'. Prove '..Said' where nothing that the law and all that it calls make is longer than what came in: it says more and counts as full. Else prove '..UptoSaid'. A law counts once. -/
mutual
def uptoBulk {H : Type} : DataW H → Nat
  | .lit (.string bytes) => bytes.length + 1
  | .lit _ => 1
  | .nil => 1
  | .ptr d => uptoBulk d + 1
  | .slice elems spare => uptoBulkAll elems + uptoBulkAll spare + 1
  | .agg parts => uptoBulkAll parts + 1
  | .iface _ d => uptoBulk d + 1
  | .map entries => uptoBulkEntries entries + 1
  | .held _ => 1
def uptoBulkAll {H : Type} : List (DataW H) → Nat
  | [] => 0
  | d :: r => uptoBulk d + uptoBulkAll r
def uptoBulkEntries {H : Type} : List (Lit × DataW H) → Nat
  | [] => 0
  | x :: r => uptoBulkEntry x + uptoBulkEntries r
def uptoBulkEntry {H : Type} : Lit × DataW H → Nat
  | (.string bytes, d) => bytes.length + uptoBulk d + 1
  | (_, d) => uptoBulk d + 1
 end
def uptoSmall : (H : Type) → List (DataW H) → Bool := fun _ ds => decide (uptoBulkAll ds ≤ 1048576)
def OpenSpec.upto (s : _root_.Go.ChangeSpec) : _root_.Go.OpenSpec := { _root_.Go.OpenSpec.ofChange s with cond := some uptoSmall }

/-- 'shunterlaw14.LocksOne', WHERE WHAT IT READS IS OF BULK AT MOST 1048576: true; the input reads as it did. -/
def locksOneUptoRow : OpenClaim := { program := "ythdnlhcepndncaa", sum := "2f05dee753e6dd57df2ed8e6787321593b56abcdc0e6e909b8a6ad441c1660e4", func := "shunter/shunterlaw14.LocksOne", spec := "locksOne", apart := false, narrowed := true }
def LocksOneUptoSaid : Prop := locksOneUptoRow.holds Try.pinned (OpenSpec.upto locksOneSpec)

/-- 'shunterlaw14.LocksMany', WHERE WHAT IT READS IS OF BULK AT MOST 1048576: true; the input reads as it did. -/
def locksManyUptoRow : OpenClaim := { program := "ythdnlhcepndncaa", sum := "2f05dee753e6dd57df2ed8e6787321593b56abcdc0e6e909b8a6ad441c1660e4", func := "shunter/shunterlaw14.LocksMany", spec := "locksMany", apart := false, narrowed := true }
def LocksManyUptoSaid : Prop := locksManyUptoRow.holds Try.pinned (OpenSpec.upto locksManySpec)

/-- 'shunterlaw14.LocksPlays', WHERE WHAT IT READS IS OF BULK AT MOST 1048576: true; the input reads as it did. -/
def locksPlaysUptoRow : OpenClaim := { program := "ythdnlhcepndncaa", sum := "2f05dee753e6dd57df2ed8e6787321593b56abcdc0e6e909b8a6ad441c1660e4", func := "shunter/shunterlaw14.LocksPlays", spec := "locksPlays", apart := false, narrowed := true }
def LocksPlaysUptoSaid : Prop := locksPlaysUptoRow.holds Try.pinned (OpenSpec.upto locksPlaysSpec)

/-- 'shunterlaw01.LebReads', WHERE WHAT IT READS IS OF BULK AT MOST 1048576: true; the input reads as it did. -/
def lebReadsUptoRow : OpenClaim := { program := "ythdnlhcepndncaa", sum := "2f05dee753e6dd57df2ed8e6787321593b56abcdc0e6e909b8a6ad441c1660e4", func := "shunter/shunterlaw01.LebReads", spec := "lebReads", apart := false, narrowed := true }
def LebReadsUptoSaid : Prop := lebReadsUptoRow.holds Try.pinned (OpenSpec.upto lebReadsSpec)

/-- 'shunterlaw01.LebSigns', WHERE WHAT IT READS IS OF BULK AT MOST 1048576: true; the input reads as it did. -/
def lebSignsUptoRow : OpenClaim := { program := "ythdnlhcepndncaa", sum := "2f05dee753e6dd57df2ed8e6787321593b56abcdc0e6e909b8a6ad441c1660e4", func := "shunter/shunterlaw01.LebSigns", spec := "lebSigns", apart := false, narrowed := true }
def LebSignsUptoSaid : Prop := lebSignsUptoRow.holds Try.pinned (OpenSpec.upto lebSignsSpec)

/-- 'shunterlaw01.LebBack', WHERE WHAT IT READS IS OF BULK AT MOST 1048576: true; the input reads as it did. -/
def lebBackUptoRow : OpenClaim := { program := "ythdnlhcepndncaa", sum := "2f05dee753e6dd57df2ed8e6787321593b56abcdc0e6e909b8a6ad441c1660e4", func := "shunter/shunterlaw01.LebBack", spec := "lebBack", recurses := true, apart := false, narrowed := true }
def LebBackUptoSaid : Prop := lebBackUptoRow.holds Try.pinned (OpenSpec.upto lebBackSpec)

/-- 'shunterlaw01.LebRow', WHERE WHAT IT READS IS OF BULK AT MOST 1048576: true; the input reads as it did. -/
def lebRowUptoRow : OpenClaim := { program := "ythdnlhcepndncaa", sum := "2f05dee753e6dd57df2ed8e6787321593b56abcdc0e6e909b8a6ad441c1660e4", func := "shunter/shunterlaw01.LebRow", spec := "lebRow", apart := false, narrowed := true }
def LebRowUptoSaid : Prop := lebRowUptoRow.holds Try.pinned (OpenSpec.upto lebRowSpec)

/-- 'shunterlaw03.CrcSums', WHERE WHAT IT READS IS OF BULK AT MOST 1048576: true; the input reads as it did. -/
def crcSumsUptoRow : OpenClaim := { program := "ythdnlhcepndncaa", sum := "2f05dee753e6dd57df2ed8e6787321593b56abcdc0e6e909b8a6ad441c1660e4", func := "shunter/shunterlaw03.CrcSums", spec := "crcSums", apart := false, narrowed := true }
def CrcSumsUptoSaid : Prop := crcSumsUptoRow.holds Try.pinned (OpenSpec.upto crcSumsSpec)

/-- 'shunterlaw03.CrcBurst', WHERE WHAT IT READS IS OF BULK AT MOST 1048576: true; the input reads as it did. -/
def crcBurstUptoRow : OpenClaim := { program := "ythdnlhcepndncaa", sum := "2f05dee753e6dd57df2ed8e6787321593b56abcdc0e6e909b8a6ad441c1660e4", func := "shunter/shunterlaw03.CrcBurst", spec := "crcBurst", apart := false, narrowed := true }
def CrcBurstUptoSaid : Prop := crcBurstUptoRow.holds Try.pinned (OpenSpec.upto crcBurstSpec)

/-- 'shunterlaw03.CrcOrder', WHERE WHAT IT READS IS OF BULK AT MOST 1048576: true; the input reads as it did. -/
def crcOrderUptoRow : OpenClaim := { program := "ythdnlhcepndncaa", sum := "2f05dee753e6dd57df2ed8e6787321593b56abcdc0e6e909b8a6ad441c1660e4", func := "shunter/shunterlaw03.CrcOrder", spec := "crcOrder", apart := false, narrowed := true }
def CrcOrderUptoSaid : Prop := crcOrderUptoRow.holds Try.pinned (OpenSpec.upto crcOrderSpec)

/-- 'shunterlaw04.StoreSafe', WHERE WHAT IT READS IS OF BULK AT MOST 1048576: true; the input reads as it did. -/
def storeSafeUptoRow : OpenClaim := { program := "ythdnlhcepndncaa", sum := "2f05dee753e6dd57df2ed8e6787321593b56abcdc0e6e909b8a6ad441c1660e4", func := "shunter/shunterlaw04.StoreSafe", spec := "storeSafe", apart := false, narrowed := true }
def StoreSafeUptoSaid : Prop := storeSafeUptoRow.holds Try.pinned (OpenSpec.upto storeSafeSpec)

/-- 'shunterlaw04.StoreCuts', WHERE WHAT IT READS IS OF BULK AT MOST 1048576: true; the input reads as it did. -/
def storeCutsUptoRow : OpenClaim := { program := "ythdnlhcepndncaa", sum := "2f05dee753e6dd57df2ed8e6787321593b56abcdc0e6e909b8a6ad441c1660e4", func := "shunter/shunterlaw04.StoreCuts", spec := "storeCuts", apart := false, narrowed := true }
def StoreCutsUptoSaid : Prop := storeCutsUptoRow.holds Try.pinned (OpenSpec.upto storeCutsSpec)

end Rows
end Go.Proofs.Ythdnlhcepndncaa

/-
  No cell of these rows narrows 'for every input' (looked for: loops, veiled, ifaces, maps, wideKeys, modest, calm, conditions, laid).
  DERIVED. THE GIVEN ROWS OF THIS SEAT. 12 by the template 'for every input the law returns true; each argument reads behind the call as it read before'; 0 by the template 'total and deterministic' (their statements: YthlllcmffgdcmabTotals.lean).
  GIVEN WITH THE SEED: the statements are not yours to turn. If you find one false, say at which input.
  Laid BY PROGRAM, IN A SANDBOX (cutbox-rows.mjs): the forced cells as the released guide's own fill.sh prints them over the translation 9bcc029a3178eac4… (all of the seat's roots in one cut). By AI agents, Wed Nov 11 2026. No macro, syntax, notation, axiom, sorry.
-/
import Derived.Test.YthlllcmffgdcmabChecked
import GoSem.Claim
import GoSem.ClaimJoined
import GoSem.ClaimMapViews
import Derived.JoinedTies
import Derived.KernelRfl
namespace Go.Proofs.Ythlllcmffgdcmab
/- THE CELL 'sum', in the pinned program and in every row, IS THE sha256 OF THE DUMP (.gsa) THAT YthlllcmffgdcmabProg.lean LOADS. Nothing in Lean hashes anything: it is a label: what it is worth is what the hold of that sum in a sandbox is worth. -/
noncomputable def Try.pinned : Pinned := { name := "ythlllcmffgdcmab", sum := "9bcc029a3178eac4a0a34656223ddc038ccbb6f2a76afbf7444a05587789a669", checked := Try.checked }
namespace Rows
def none {H : Type} : Left H := { results := [], args := [] }

/-- 'shunterlaw17.SourceGuards': WHATEVER THE INPUT: true; the input reads as it did. -/
def sourceGuardsSpec : ChangeSpec := { name := "sourceGuards", fn := fun _ => fun
  | [d] => { results := [.lit (.bool true)], args := [d] }
  | _ => none }
def sourceGuardsRow : OpenClaim := { program := "ythlllcmffgdcmab", sum := "9bcc029a3178eac4a0a34656223ddc038ccbb6f2a76afbf7444a05587789a669", func := "shunter/shunterlaw17.SourceGuards", spec := "sourceGuards", unfollowed := true, recurses := true, apart := false }
def SourceGuardsSaid : Prop := sourceGuardsRow.holds Try.pinned (OpenSpec.ofChange sourceGuardsSpec)

/-- ITS FALSE NEIGHBOUR: 'it returns false'. Refute it at one input. -/
def sourceGuardsWrong : ChangeSpec := { name := "sourceGuards", fn := fun _ => fun
  | [d] => { results := [.lit (.bool false)], args := [d] }
  | _ => none }
def SourceGuardsWrongFalsely : Prop := sourceGuardsRow.holds Try.pinned (OpenSpec.ofChange sourceGuardsWrong)

/-- 'shunterlaw17.SourceBelow': WHATEVER THE INPUT: true; the input reads as it did. -/
def sourceBelowSpec : ChangeSpec := { name := "sourceBelow", fn := fun _ => fun
  | [d1, d2] => { results := [.lit (.bool true)], args := [d1, d2] }
  | _ => none }
def sourceBelowRow : OpenClaim := { program := "ythlllcmffgdcmab", sum := "9bcc029a3178eac4a0a34656223ddc038ccbb6f2a76afbf7444a05587789a669", func := "shunter/shunterlaw17.SourceBelow", spec := "sourceBelow", unfollowed := true, recurses := true, apart := false }
def SourceBelowSaid : Prop := sourceBelowRow.holds Try.pinned (OpenSpec.ofChange sourceBelowSpec)

/-- ITS FALSE NEIGHBOUR: 'it returns false'. Refute it at one input. -/
def sourceBelowWrong : ChangeSpec := { name := "sourceBelow", fn := fun _ => fun
  | [d1, d2] => { results := [.lit (.bool false)], args := [d1, d2] }
  | _ => none }
def SourceBelowWrongFalsely : Prop := sourceBelowRow.holds Try.pinned (OpenSpec.ofChange sourceBelowWrong)

/-- 'shunterlaw17.SourceAgain': WHATEVER THE INPUT: true; the input reads as it did. -/
def sourceAgainSpec : ChangeSpec := { name := "sourceAgain", fn := fun _ => fun
  | [d1, d2] => { results := [.lit (.bool true)], args := [d1, d2] }
  | _ => none }
def sourceAgainRow : OpenClaim := { program := "ythlllcmffgdcmab", sum := "9bcc029a3178eac4a0a34656223ddc038ccbb6f2a76afbf7444a05587789a669", func := "shunter/shunterlaw17.SourceAgain", spec := "sourceAgain", unfollowed := true, recurses := true, apart := false }
def SourceAgainSaid : Prop := sourceAgainRow.holds Try.pinned (OpenSpec.ofChange sourceAgainSpec)

/-- ITS FALSE NEIGHBOUR: 'it returns false'. Refute it at one input. -/
def sourceAgainWrong : ChangeSpec := { name := "sourceAgain", fn := fun _ => fun
  | [d1, d2] => { results := [.lit (.bool false)], args := [d1, d2] }
  | _ => none }
def SourceAgainWrongFalsely : Prop := sourceAgainRow.holds Try.pinned (OpenSpec.ofChange sourceAgainWrong)

/-- 'shunterlaw17.SourcePlays': WHATEVER THE INPUT: true; the input reads as it did. -/
def sourcePlaysSpec : ChangeSpec := { name := "sourcePlays", fn := fun _ => fun
  | [d1, d2, d3, d4, d5] => { results := [.lit (.bool true)], args := [d1, d2, d3, d4, d5] }
  | _ => none }
def sourcePlaysRow : OpenClaim := { program := "ythlllcmffgdcmab", sum := "9bcc029a3178eac4a0a34656223ddc038ccbb6f2a76afbf7444a05587789a669", func := "shunter/shunterlaw17.SourcePlays", spec := "sourcePlays", unfollowed := true, recurses := true, apart := false }
def SourcePlaysSaid : Prop := sourcePlaysRow.holds Try.pinned (OpenSpec.ofChange sourcePlaysSpec)

/-- ITS FALSE NEIGHBOUR: 'it returns false'. Refute it at one input. -/
def sourcePlaysWrong : ChangeSpec := { name := "sourcePlays", fn := fun _ => fun
  | [d1, d2, d3, d4, d5] => { results := [.lit (.bool false)], args := [d1, d2, d3, d4, d5] }
  | _ => none }
def SourcePlaysWrongFalsely : Prop := sourcePlaysRow.holds Try.pinned (OpenSpec.ofChange sourcePlaysWrong)

/-- 'shunterlaw17.SourceChains': WHATEVER THE INPUT: true; the input reads as it did. -/
def sourceChainsSpec : ChangeSpec := { name := "sourceChains", fn := fun _ => fun
  | [d1, d2, d3] => { results := [.lit (.bool true)], args := [d1, d2, d3] }
  | _ => none }
def sourceChainsRow : OpenClaim := { program := "ythlllcmffgdcmab", sum := "9bcc029a3178eac4a0a34656223ddc038ccbb6f2a76afbf7444a05587789a669", func := "shunter/shunterlaw17.SourceChains", spec := "sourceChains", unfollowed := true, recurses := true, apart := false }
def SourceChainsSaid : Prop := sourceChainsRow.holds Try.pinned (OpenSpec.ofChange sourceChainsSpec)

/-- ITS FALSE NEIGHBOUR: 'it returns false'. Refute it at one input. -/
def sourceChainsWrong : ChangeSpec := { name := "sourceChains", fn := fun _ => fun
  | [d1, d2, d3] => { results := [.lit (.bool false)], args := [d1, d2, d3] }
  | _ => none }
def SourceChainsWrongFalsely : Prop := sourceChainsRow.holds Try.pinned (OpenSpec.ofChange sourceChainsWrong)

/-- 'shunterlaw12.FrameClones': WHATEVER THE INPUT: true; the input reads as it did. -/
def frameClonesSpec : ChangeSpec := { name := "frameClones", fn := fun _ => fun
  | [d1, d2, d3] => { results := [.lit (.bool true)], args := [d1, d2, d3] }
  | _ => none }
def frameClonesRow : OpenClaim := { program := "ythlllcmffgdcmab", sum := "9bcc029a3178eac4a0a34656223ddc038ccbb6f2a76afbf7444a05587789a669", func := "shunter/shunterlaw12.FrameClones", spec := "frameClones", unfollowed := true, recurses := true, apart := false }
def FrameClonesSaid : Prop := frameClonesRow.holds Try.pinned (OpenSpec.ofChange frameClonesSpec)

/-- ITS FALSE NEIGHBOUR: 'it returns false'. Refute it at one input. -/
def frameClonesWrong : ChangeSpec := { name := "frameClones", fn := fun _ => fun
  | [d1, d2, d3] => { results := [.lit (.bool false)], args := [d1, d2, d3] }
  | _ => none }
def FrameClonesWrongFalsely : Prop := frameClonesRow.holds Try.pinned (OpenSpec.ofChange frameClonesWrong)

/-- 'shunterlaw12.FrameDeep': WHATEVER THE INPUT: true; the input reads as it did. -/
def frameDeepSpec : ChangeSpec := { name := "frameDeep", fn := fun _ => fun
  | [d] => { results := [.lit (.bool true)], args := [d] }
  | _ => none }
def frameDeepRow : OpenClaim := { program := "ythlllcmffgdcmab", sum := "9bcc029a3178eac4a0a34656223ddc038ccbb6f2a76afbf7444a05587789a669", func := "shunter/shunterlaw12.FrameDeep", spec := "frameDeep", unfollowed := true, recurses := true, apart := false }
def FrameDeepSaid : Prop := frameDeepRow.holds Try.pinned (OpenSpec.ofChange frameDeepSpec)

/-- ITS FALSE NEIGHBOUR: 'it returns false'. Refute it at one input. -/
def frameDeepWrong : ChangeSpec := { name := "frameDeep", fn := fun _ => fun
  | [d] => { results := [.lit (.bool false)], args := [d] }
  | _ => none }
def FrameDeepWrongFalsely : Prop := frameDeepRow.holds Try.pinned (OpenSpec.ofChange frameDeepWrong)

/-- 'shunterlaw09.HeapCancels': WHATEVER THE INPUT: true; the input reads as it did. -/
def heapCancelsSpec : ChangeSpec := { name := "heapCancels", fn := fun _ => fun
  | [d1, d2] => { results := [.lit (.bool true)], args := [d1, d2] }
  | _ => none }
def heapCancelsRow : OpenClaim := { program := "ythlllcmffgdcmab", sum := "9bcc029a3178eac4a0a34656223ddc038ccbb6f2a76afbf7444a05587789a669", func := "shunter/shunterlaw09.HeapCancels", spec := "heapCancels", apart := false }
def HeapCancelsSaid : Prop := heapCancelsRow.holds Try.pinned (OpenSpec.ofChange heapCancelsSpec)

/-- ITS FALSE NEIGHBOUR: 'it returns false'. Refute it at one input. -/
def heapCancelsWrong : ChangeSpec := { name := "heapCancels", fn := fun _ => fun
  | [d1, d2] => { results := [.lit (.bool false)], args := [d1, d2] }
  | _ => none }
def HeapCancelsWrongFalsely : Prop := heapCancelsRow.holds Try.pinned (OpenSpec.ofChange heapCancelsWrong)

/-- 'shunterlaw09.HeapSorts': WHATEVER THE INPUT: true; the input reads as it did. -/
def heapSortsSpec : ChangeSpec := { name := "heapSorts", fn := fun _ => fun
  | [d] => { results := [.lit (.bool true)], args := [d] }
  | _ => none }
def heapSortsRow : OpenClaim := { program := "ythlllcmffgdcmab", sum := "9bcc029a3178eac4a0a34656223ddc038ccbb6f2a76afbf7444a05587789a669", func := "shunter/shunterlaw09.HeapSorts", spec := "heapSorts", apart := false }
def HeapSortsSaid : Prop := heapSortsRow.holds Try.pinned (OpenSpec.ofChange heapSortsSpec)

/-- ITS FALSE NEIGHBOUR: 'it returns false'. Refute it at one input. -/
def heapSortsWrong : ChangeSpec := { name := "heapSorts", fn := fun _ => fun
  | [d] => { results := [.lit (.bool false)], args := [d] }
  | _ => none }
def HeapSortsWrongFalsely : Prop := heapSortsRow.holds Try.pinned (OpenSpec.ofChange heapSortsWrong)

/-- 'shunterlaw09.HeapPlays': WHATEVER THE INPUT: true; the input reads as it did. -/
def heapPlaysSpec : ChangeSpec := { name := "heapPlays", fn := fun _ => fun
  | [d] => { results := [.lit (.bool true)], args := [d] }
  | _ => none }
def heapPlaysRow : OpenClaim := { program := "ythlllcmffgdcmab", sum := "9bcc029a3178eac4a0a34656223ddc038ccbb6f2a76afbf7444a05587789a669", func := "shunter/shunterlaw09.HeapPlays", spec := "heapPlays", apart := false }
def HeapPlaysSaid : Prop := heapPlaysRow.holds Try.pinned (OpenSpec.ofChange heapPlaysSpec)

/-- ITS FALSE NEIGHBOUR: 'it returns false'. Refute it at one input. -/
def heapPlaysWrong : ChangeSpec := { name := "heapPlays", fn := fun _ => fun
  | [d] => { results := [.lit (.bool false)], args := [d] }
  | _ => none }
def HeapPlaysWrongFalsely : Prop := heapPlaysRow.holds Try.pinned (OpenSpec.ofChange heapPlaysWrong)

/-- 'shunterlaw10.CodeChecks': WHATEVER THE INPUT: true; the input reads as it did. -/
def codeChecksSpec : ChangeSpec := { name := "codeChecks", fn := fun _ => fun
  | [d1, d2, d3, d4, d5, d6] => { results := [.lit (.bool true)], args := [d1, d2, d3, d4, d5, d6] }
  | _ => none }
def codeChecksRow : OpenClaim := { program := "ythlllcmffgdcmab", sum := "9bcc029a3178eac4a0a34656223ddc038ccbb6f2a76afbf7444a05587789a669", func := "shunter/shunterlaw10.CodeChecks", spec := "codeChecks", apart := false }
def CodeChecksSaid : Prop := codeChecksRow.holds Try.pinned (OpenSpec.ofChange codeChecksSpec)

/-- ITS FALSE NEIGHBOUR: 'it returns false'. Refute it at one input. -/
def codeChecksWrong : ChangeSpec := { name := "codeChecks", fn := fun _ => fun
  | [d1, d2, d3, d4, d5, d6] => { results := [.lit (.bool false)], args := [d1, d2, d3, d4, d5, d6] }
  | _ => none }
def CodeChecksWrongFalsely : Prop := codeChecksRow.holds Try.pinned (OpenSpec.ofChange codeChecksWrong)

/-- 'shunterlaw10.CodeParts': WHATEVER THE INPUT: true; the input reads as it did. -/
def codePartsSpec : ChangeSpec := { name := "codeParts", fn := fun _ => fun
  | [d1, d2, d3, d4] => { results := [.lit (.bool true)], args := [d1, d2, d3, d4] }
  | _ => none }
def codePartsRow : OpenClaim := { program := "ythlllcmffgdcmab", sum := "9bcc029a3178eac4a0a34656223ddc038ccbb6f2a76afbf7444a05587789a669", func := "shunter/shunterlaw10.CodeParts", spec := "codeParts", apart := false }
def CodePartsSaid : Prop := codePartsRow.holds Try.pinned (OpenSpec.ofChange codePartsSpec)

/-- ITS FALSE NEIGHBOUR: 'it returns false'. Refute it at one input. -/
def codePartsWrong : ChangeSpec := { name := "codeParts", fn := fun _ => fun
  | [d1, d2, d3, d4] => { results := [.lit (.bool false)], args := [d1, d2, d3, d4] }
  | _ => none }
def CodePartsWrongFalsely : Prop := codePartsRow.holds Try.pinned (OpenSpec.ofChange codePartsWrong)

/- THE SECOND FORM. 'bulk': how many values and letters a reading holds, each counted each time it is reached (what is shared counts as often as it is met; a slice's spare places count too). A statement '..UptoSaid' is the law's where the arguments, and the package variables that the reading takes, are together of bulk at most 1048576: NARROWER than '..Said'. Prove '..Said' where nothing that the law and all that it calls make is longer than what came in: it says more and counts as full. Else prove '..UptoSaid'. A law counts once. -/
mutual
def uptoBulk {H : Type} : DataW H → Nat
  | .lit (.string bytes) => bytes.length + 1
  | .lit _ => 1
  | .nil => 1
  | .ptr d => uptoBulk d + 1
  | .slice elems spare => uptoBulkAll elems + uptoBulkAll spare + 1
  | .agg parts => uptoBulkAll parts + 1
  | .iface _ d => uptoBulk d + 1
  | .map entries => uptoBulkEntries entries + 1
  | .held _ => 1
def uptoBulkAll {H : Type} : List (DataW H) → Nat
  | [] => 0
  | d :: r => uptoBulk d + uptoBulkAll r
def uptoBulkEntries {H : Type} : List (Lit × DataW H) → Nat
  | [] => 0
  | x :: r => uptoBulkEntry x + uptoBulkEntries r
def uptoBulkEntry {H : Type} : Lit × DataW H → Nat
  | (.string bytes, d) => bytes.length + uptoBulk d + 1
  | (_, d) => uptoBulk d + 1
 end
def uptoSmall : (H : Type) → List (DataW H) → Bool := fun _ ds => decide (uptoBulkAll ds ≤ 1048576)
def OpenSpec.upto (s : _root_.Go.ChangeSpec) : _root_.Go.OpenSpec := { _root_.Go.OpenSpec.ofChange s with cond := some uptoSmall }

/-- 'shunterlaw17.SourceGuards', WHERE WHAT IT READS IS OF BULK AT MOST 1048576: true; the input reads as it did. -/
def sourceGuardsUptoRow : OpenClaim := { program := "ythlllcmffgdcmab", sum := "9bcc029a3178eac4a0a34656223ddc038ccbb6f2a76afbf7444a05587789a669", func := "shunter/shunterlaw17.SourceGuards", spec := "sourceGuards", unfollowed := true, recurses := true, apart := false, narrowed := true }
def SourceGuardsUptoSaid : Prop := sourceGuardsUptoRow.holds Try.pinned (OpenSpec.upto sourceGuardsSpec)

/-- 'shunterlaw17.SourceBelow', WHERE WHAT IT READS IS OF BULK AT MOST 1048576: true; the input reads as it did. -/
def sourceBelowUptoRow : OpenClaim := { program := "ythlllcmffgdcmab", sum := "9bcc029a3178eac4a0a34656223ddc038ccbb6f2a76afbf7444a05587789a669", func := "shunter/shunterlaw17.SourceBelow", spec := "sourceBelow", unfollowed := true, recurses := true, apart := false, narrowed := true }
def SourceBelowUptoSaid : Prop := sourceBelowUptoRow.holds Try.pinned (OpenSpec.upto sourceBelowSpec)

/-- 'shunterlaw17.SourceAgain', WHERE WHAT IT READS IS OF BULK AT MOST 1048576: true; the input reads as it did. -/
def sourceAgainUptoRow : OpenClaim := { program := "ythlllcmffgdcmab", sum := "9bcc029a3178eac4a0a34656223ddc038ccbb6f2a76afbf7444a05587789a669", func := "shunter/shunterlaw17.SourceAgain", spec := "sourceAgain", unfollowed := true, recurses := true, apart := false, narrowed := true }
def SourceAgainUptoSaid : Prop := sourceAgainUptoRow.holds Try.pinned (OpenSpec.upto sourceAgainSpec)

/-- 'shunterlaw17.SourcePlays', WHERE WHAT IT READS IS OF BULK AT MOST 1048576: true; the input reads as it did. -/
def sourcePlaysUptoRow : OpenClaim := { program := "ythlllcmffgdcmab", sum := "9bcc029a3178eac4a0a34656223ddc038ccbb6f2a76afbf7444a05587789a669", func := "shunter/shunterlaw17.SourcePlays", spec := "sourcePlays", unfollowed := true, recurses := true, apart := false, narrowed := true }
def SourcePlaysUptoSaid : Prop := sourcePlaysUptoRow.holds Try.pinned (OpenSpec.upto sourcePlaysSpec)

/-- 'shunterlaw17.SourceChains', WHERE WHAT IT READS IS OF BULK AT MOST 1048576: true; the input reads as it did. -/
def sourceChainsUptoRow : OpenClaim := { program := "ythlllcmffgdcmab", sum := "9bcc029a3178eac4a0a34656223ddc038ccbb6f2a76afbf7444a05587789a669", func := "shunter/shunterlaw17.SourceChains", spec := "sourceChains", unfollowed := true, recurses := true, apart := false, narrowed := true }
def SourceChainsUptoSaid : Prop := sourceChainsUptoRow.holds Try.pinned (OpenSpec.upto sourceChainsSpec)

/-- 'shunterlaw12.FrameClones', WHERE WHAT IT READS IS OF BULK AT MOST 1048576: true; the input reads as it did. -/
def frameClonesUptoRow : OpenClaim := { program := "ythlllcmffgdcmab", sum := "9bcc029a3178eac4a0a34656223ddc038ccbb6f2a76afbf7444a05587789a669", func := "shunter/shunterlaw12.FrameClones", spec := "frameClones", unfollowed := true, recurses := true, apart := false, narrowed := true }
def FrameClonesUptoSaid : Prop := frameClonesUptoRow.holds Try.pinned (OpenSpec.upto frameClonesSpec)

/-- 'shunterlaw12.FrameDeep', WHERE WHAT IT READS IS OF BULK AT MOST 1048576: true; the input reads as it did. -/
def frameDeepUptoRow : OpenClaim := { program := "ythlllcmffgdcmab", sum := "9bcc029a3178eac4a0a34656223ddc038ccbb6f2a76afbf7444a05587789a669", func := "shunter/shunterlaw12.FrameDeep", spec := "frameDeep", unfollowed := true, recurses := true, apart := false, narrowed := true }
def FrameDeepUptoSaid : Prop := frameDeepUptoRow.holds Try.pinned (OpenSpec.upto frameDeepSpec)

/-- 'shunterlaw09.HeapCancels', WHERE WHAT IT READS IS OF BULK AT MOST 1048576: true; the input reads as it did. -/
def heapCancelsUptoRow : OpenClaim := { program := "ythlllcmffgdcmab", sum := "9bcc029a3178eac4a0a34656223ddc038ccbb6f2a76afbf7444a05587789a669", func := "shunter/shunterlaw09.HeapCancels", spec := "heapCancels", apart := false, narrowed := true }
def HeapCancelsUptoSaid : Prop := heapCancelsUptoRow.holds Try.pinned (OpenSpec.upto heapCancelsSpec)

/-- 'shunterlaw09.HeapSorts', WHERE WHAT IT READS IS OF BULK AT MOST 1048576: true; the input reads as it did. -/
def heapSortsUptoRow : OpenClaim := { program := "ythlllcmffgdcmab", sum := "9bcc029a3178eac4a0a34656223ddc038ccbb6f2a76afbf7444a05587789a669", func := "shunter/shunterlaw09.HeapSorts", spec := "heapSorts", apart := false, narrowed := true }
def HeapSortsUptoSaid : Prop := heapSortsUptoRow.holds Try.pinned (OpenSpec.upto heapSortsSpec)

/-- 'shunterlaw09.HeapPlays', WHERE WHAT IT READS IS OF BULK AT MOST 1048576: true; the input reads as it did. -/
def heapPlaysUptoRow : OpenClaim := { program := "ythlllcmffgdcmab", sum := "9bcc029a3178eac4a0a34656223ddc038ccbb6f2a76afbf7444a05587789a669", func := "shunter/shunterlaw09.HeapPlays", spec := "heapPlays", apart := false, narrowed := true }
def HeapPlaysUptoSaid : Prop := heapPlaysUptoRow.holds Try.pinned (OpenSpec.upto heapPlaysSpec)

/-- 'shunterlaw10.CodeChecks', WHERE WHAT IT READS IS OF BULK AT MOST 1048576: true; the input reads as it did. -/
def codeChecksUptoRow : OpenClaim := { program := "ythlllcmffgdcmab", sum := "9bcc029a3178eac4a0a34656223ddc038ccbb6f2a76afbf7444a05587789a669", func := "shunter/shunterlaw10.CodeChecks", spec := "codeChecks", apart := false, narrowed := true }
def CodeChecksUptoSaid : Prop := codeChecksUptoRow.holds Try.pinned (OpenSpec.upto codeChecksSpec)

/-- 'shunterlaw10.CodeParts', WHERE WHAT IT READS IS OF BULK AT MOST 1048576: true; the input reads as it did. -/
def codePartsUptoRow : OpenClaim := { program := "ythlllcmffgdcmab", sum := "9bcc029a3178eac4a0a34656223ddc038ccbb6f2a76afbf7444a05587789a669", func := "shunter/shunterlaw10.CodeParts", spec := "codeParts", apart := false, narrowed := true }
def CodePartsUptoSaid : Prop := codePartsUptoRow.holds Try.pinned (OpenSpec.upto codePartsSpec)

end Rows
end Go.Proofs.Ythlllcmffgdcmab

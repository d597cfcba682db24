/-
  No cell of these rows narrows 'for every input' (looked for: loops, veiled, ifaces, maps, wideKeys, modest, calm, conditions, laid).
  DERIVED. THE GIVEN ROWS OF THIS SEAT. 12 by the template 'for every input the law returns true; each argument reads behind the call as it read before'; 0 by the template 'total and deterministic' (their statements: YthlllcmffgdcmaaTotals.lean).
  GIVEN WITH THE SEED: the statements are not yours to turn. If you find one false, say at which input.
  Laid BY PROGRAM, IN A SANDBOX (cutbox-rows.mjs): the forced cells as the released guide's own fill.sh prints them over the translation 3b81fe9904f68dbc… (all of the seat's roots in one cut). By AI agents, Wed Nov 11 2026. No macro, syntax, notation, axiom, sorry.
-/
import Derived.Test.YthlllcmffgdcmaaChecked
import GoSem.Claim
import GoSem.ClaimJoined
import GoSem.ClaimMapViews
import Derived.JoinedTies
import Derived.KernelRfl
namespace Go.Proofs.Ythlllcmffgdcmaa
/- THE CELL 'sum', in the pinned program and in every row, IS THE sha256 OF THE DUMP (.gsa) THAT YthlllcmffgdcmaaProg.lean LOADS. Nothing in Lean hashes anything: it is a label: what it is worth is what the hold of that sum in a sandbox is worth. -/
noncomputable def Try.pinned : Pinned := { name := "ythlllcmffgdcmaa", sum := "3b81fe9904f68dbca40855e763d1ed4312de76d3086c9ae914f2bc48ab2d2087", checked := Try.checked }
namespace Rows
def none {H : Type} : Left H := { results := [], args := [] }

/-- 'shunterlaw02.RecordCuts': WHATEVER THE INPUT: true; the input reads as it did. -/
def recordCutsSpec : ChangeSpec := { name := "recordCuts", fn := fun _ => fun
  | [d1, d2] => { results := [.lit (.bool true)], args := [d1, d2] }
  | _ => none }
def recordCutsRow : OpenClaim := { program := "ythlllcmffgdcmaa", sum := "3b81fe9904f68dbca40855e763d1ed4312de76d3086c9ae914f2bc48ab2d2087", func := "shunter/shunterlaw02.RecordCuts", spec := "recordCuts", apart := false }
def RecordCutsSaid : Prop := recordCutsRow.holds Try.pinned (OpenSpec.ofChange recordCutsSpec)

/-- ITS FALSE NEIGHBOUR: 'it returns false'. Refute it at one input. -/
def recordCutsWrong : ChangeSpec := { name := "recordCuts", fn := fun _ => fun
  | [d1, d2] => { results := [.lit (.bool false)], args := [d1, d2] }
  | _ => none }
def RecordCutsWrongFalsely : Prop := recordCutsRow.holds Try.pinned (OpenSpec.ofChange recordCutsWrong)

/-- 'shunterlaw02.RecordBack': WHATEVER THE INPUT: true; the input reads as it did. -/
def recordBackSpec : ChangeSpec := { name := "recordBack", fn := fun _ => fun
  | [d1, d2] => { results := [.lit (.bool true)], args := [d1, d2] }
  | _ => none }
def recordBackRow : OpenClaim := { program := "ythlllcmffgdcmaa", sum := "3b81fe9904f68dbca40855e763d1ed4312de76d3086c9ae914f2bc48ab2d2087", func := "shunter/shunterlaw02.RecordBack", spec := "recordBack", recurses := true, apart := false }
def RecordBackSaid : Prop := recordBackRow.holds Try.pinned (OpenSpec.ofChange recordBackSpec)

/-- ITS FALSE NEIGHBOUR: 'it returns false'. Refute it at one input. -/
def recordBackWrong : ChangeSpec := { name := "recordBack", fn := fun _ => fun
  | [d1, d2] => { results := [.lit (.bool false)], args := [d1, d2] }
  | _ => none }
def RecordBackWrongFalsely : Prop := recordBackRow.holds Try.pinned (OpenSpec.ofChange recordBackWrong)

/-- 'shunterlaw02.RecordReads': WHATEVER THE INPUT: true; the input reads as it did. -/
def recordReadsSpec : ChangeSpec := { name := "recordReads", fn := fun _ => fun
  | [d1, d2] => { results := [.lit (.bool true)], args := [d1, d2] }
  | _ => none }
def recordReadsRow : OpenClaim := { program := "ythlllcmffgdcmaa", sum := "3b81fe9904f68dbca40855e763d1ed4312de76d3086c9ae914f2bc48ab2d2087", func := "shunter/shunterlaw02.RecordReads", spec := "recordReads", apart := false }
def RecordReadsSaid : Prop := recordReadsRow.holds Try.pinned (OpenSpec.ofChange recordReadsSpec)

/-- ITS FALSE NEIGHBOUR: 'it returns false'. Refute it at one input. -/
def recordReadsWrong : ChangeSpec := { name := "recordReads", fn := fun _ => fun
  | [d1, d2] => { results := [.lit (.bool false)], args := [d1, d2] }
  | _ => none }
def RecordReadsWrongFalsely : Prop := recordReadsRow.holds Try.pinned (OpenSpec.ofChange recordReadsWrong)

/-- 'shunterlaw05.SegmentBack': WHATEVER THE INPUT: true; the input reads as it did. -/
def segmentBackSpec : ChangeSpec := { name := "segmentBack", fn := fun _ => fun
  | [d1, d2, d3, d4, d5] => { results := [.lit (.bool true)], args := [d1, d2, d3, d4, d5] }
  | _ => none }
def segmentBackRow : OpenClaim := { program := "ythlllcmffgdcmaa", sum := "3b81fe9904f68dbca40855e763d1ed4312de76d3086c9ae914f2bc48ab2d2087", func := "shunter/shunterlaw05.SegmentBack", spec := "segmentBack", recurses := true, apart := false }
def SegmentBackSaid : Prop := segmentBackRow.holds Try.pinned (OpenSpec.ofChange segmentBackSpec)

/-- ITS FALSE NEIGHBOUR: 'it returns false'. Refute it at one input. -/
def segmentBackWrong : ChangeSpec := { name := "segmentBack", fn := fun _ => fun
  | [d1, d2, d3, d4, d5] => { results := [.lit (.bool false)], args := [d1, d2, d3, d4, d5] }
  | _ => none }
def SegmentBackWrongFalsely : Prop := segmentBackRow.holds Try.pinned (OpenSpec.ofChange segmentBackWrong)

/-- 'shunterlaw05.SegmentOpens': WHATEVER THE INPUT: true; the input reads as it did. -/
def segmentOpensSpec : ChangeSpec := { name := "segmentOpens", fn := fun _ => fun
  | [d1, d2] => { results := [.lit (.bool true)], args := [d1, d2] }
  | _ => none }
def segmentOpensRow : OpenClaim := { program := "ythlllcmffgdcmaa", sum := "3b81fe9904f68dbca40855e763d1ed4312de76d3086c9ae914f2bc48ab2d2087", func := "shunter/shunterlaw05.SegmentOpens", spec := "segmentOpens", recurses := true, apart := false }
def SegmentOpensSaid : Prop := segmentOpensRow.holds Try.pinned (OpenSpec.ofChange segmentOpensSpec)

/-- ITS FALSE NEIGHBOUR: 'it returns false'. Refute it at one input. -/
def segmentOpensWrong : ChangeSpec := { name := "segmentOpens", fn := fun _ => fun
  | [d1, d2] => { results := [.lit (.bool false)], args := [d1, d2] }
  | _ => none }
def SegmentOpensWrongFalsely : Prop := segmentOpensRow.holds Try.pinned (OpenSpec.ofChange segmentOpensWrong)

/-- 'shunterlaw05.SegmentSpoilt': WHATEVER THE INPUT: true; the input reads as it did. -/
def segmentSpoiltSpec : ChangeSpec := { name := "segmentSpoilt", fn := fun _ => fun
  | [d1, d2, d3, d4] => { results := [.lit (.bool true)], args := [d1, d2, d3, d4] }
  | _ => none }
def segmentSpoiltRow : OpenClaim := { program := "ythlllcmffgdcmaa", sum := "3b81fe9904f68dbca40855e763d1ed4312de76d3086c9ae914f2bc48ab2d2087", func := "shunter/shunterlaw05.SegmentSpoilt", spec := "segmentSpoilt", apart := false }
def SegmentSpoiltSaid : Prop := segmentSpoiltRow.holds Try.pinned (OpenSpec.ofChange segmentSpoiltSpec)

/-- ITS FALSE NEIGHBOUR: 'it returns false'. Refute it at one input. -/
def segmentSpoiltWrong : ChangeSpec := { name := "segmentSpoilt", fn := fun _ => fun
  | [d1, d2, d3, d4] => { results := [.lit (.bool false)], args := [d1, d2, d3, d4] }
  | _ => none }
def SegmentSpoiltWrongFalsely : Prop := segmentSpoiltRow.holds Try.pinned (OpenSpec.ofChange segmentSpoiltWrong)

/-- 'shunterlaw05.SegmentBig': WHATEVER THE INPUT: true; the input reads as it did. -/
def segmentBigSpec : ChangeSpec := { name := "segmentBig", fn := fun _ => fun
  | [d] => { results := [.lit (.bool true)], args := [d] }
  | _ => none }
def segmentBigRow : OpenClaim := { program := "ythlllcmffgdcmaa", sum := "3b81fe9904f68dbca40855e763d1ed4312de76d3086c9ae914f2bc48ab2d2087", func := "shunter/shunterlaw05.SegmentBig", spec := "segmentBig", apart := false }
def SegmentBigSaid : Prop := segmentBigRow.holds Try.pinned (OpenSpec.ofChange segmentBigSpec)

/-- ITS FALSE NEIGHBOUR: 'it returns false'. Refute it at one input. -/
def segmentBigWrong : ChangeSpec := { name := "segmentBig", fn := fun _ => fun
  | [d] => { results := [.lit (.bool false)], args := [d] }
  | _ => none }
def SegmentBigWrongFalsely : Prop := segmentBigRow.holds Try.pinned (OpenSpec.ofChange segmentBigWrong)

/-- 'shunterlaw05.SegmentScans': WHATEVER THE INPUT: true; the input reads as it did. -/
def segmentScansSpec : ChangeSpec := { name := "segmentScans", fn := fun _ => fun
  | [d1, d2, d3, d4, d5] => { results := [.lit (.bool true)], args := [d1, d2, d3, d4, d5] }
  | _ => none }
def segmentScansRow : OpenClaim := { program := "ythlllcmffgdcmaa", sum := "3b81fe9904f68dbca40855e763d1ed4312de76d3086c9ae914f2bc48ab2d2087", func := "shunter/shunterlaw05.SegmentScans", spec := "segmentScans", unfollowed := true, recurses := true, apart := false }
def SegmentScansSaid : Prop := segmentScansRow.holds Try.pinned (OpenSpec.ofChange segmentScansSpec)

/-- ITS FALSE NEIGHBOUR: 'it returns false'. Refute it at one input. -/
def segmentScansWrong : ChangeSpec := { name := "segmentScans", fn := fun _ => fun
  | [d1, d2, d3, d4, d5] => { results := [.lit (.bool false)], args := [d1, d2, d3, d4, d5] }
  | _ => none }
def SegmentScansWrongFalsely : Prop := segmentScansRow.holds Try.pinned (OpenSpec.ofChange segmentScansWrong)

/-- 'shunterlaw05.SegmentTorn': WHATEVER THE INPUT: true; the input reads as it did. -/
def segmentTornSpec : ChangeSpec := { name := "segmentTorn", fn := fun _ => fun
  | [d1, d2] => { results := [.lit (.bool true)], args := [d1, d2] }
  | _ => none }
def segmentTornRow : OpenClaim := { program := "ythlllcmffgdcmaa", sum := "3b81fe9904f68dbca40855e763d1ed4312de76d3086c9ae914f2bc48ab2d2087", func := "shunter/shunterlaw05.SegmentTorn", spec := "segmentTorn", unfollowed := true, recurses := true, apart := false }
def SegmentTornSaid : Prop := segmentTornRow.holds Try.pinned (OpenSpec.ofChange segmentTornSpec)

/-- ITS FALSE NEIGHBOUR: 'it returns false'. Refute it at one input. -/
def segmentTornWrong : ChangeSpec := { name := "segmentTorn", fn := fun _ => fun
  | [d1, d2] => { results := [.lit (.bool false)], args := [d1, d2] }
  | _ => none }
def SegmentTornWrongFalsely : Prop := segmentTornRow.holds Try.pinned (OpenSpec.ofChange segmentTornWrong)

/-- 'shunterlaw06.LogbookMany': WHATEVER THE INPUT: true; the input reads as it did. -/
def logbookManySpec : ChangeSpec := { name := "logbookMany", fn := fun _ => fun
  | [d1, d2, d3] => { results := [.lit (.bool true)], args := [d1, d2, d3] }
  | _ => none }
def logbookManyRow : OpenClaim := { program := "ythlllcmffgdcmaa", sum := "3b81fe9904f68dbca40855e763d1ed4312de76d3086c9ae914f2bc48ab2d2087", func := "shunter/shunterlaw06.LogbookMany", spec := "logbookMany", unfollowed := true, recurses := true, apart := false }
def LogbookManySaid : Prop := logbookManyRow.holds Try.pinned (OpenSpec.ofChange logbookManySpec)

/-- ITS FALSE NEIGHBOUR: 'it returns false'. Refute it at one input. -/
def logbookManyWrong : ChangeSpec := { name := "logbookMany", fn := fun _ => fun
  | [d1, d2, d3] => { results := [.lit (.bool false)], args := [d1, d2, d3] }
  | _ => none }
def LogbookManyWrongFalsely : Prop := logbookManyRow.holds Try.pinned (OpenSpec.ofChange logbookManyWrong)

/-- 'shunterlaw06.LogbookWrites': WHATEVER THE INPUT: true; the input reads as it did. -/
def logbookWritesSpec : ChangeSpec := { name := "logbookWrites", fn := fun _ => fun
  | [d1, d2, d3] => { results := [.lit (.bool true)], args := [d1, d2, d3] }
  | _ => none }
def logbookWritesRow : OpenClaim := { program := "ythlllcmffgdcmaa", sum := "3b81fe9904f68dbca40855e763d1ed4312de76d3086c9ae914f2bc48ab2d2087", func := "shunter/shunterlaw06.LogbookWrites", spec := "logbookWrites", unfollowed := true, recurses := true, apart := false }
def LogbookWritesSaid : Prop := logbookWritesRow.holds Try.pinned (OpenSpec.ofChange logbookWritesSpec)

/-- ITS FALSE NEIGHBOUR: 'it returns false'. Refute it at one input. -/
def logbookWritesWrong : ChangeSpec := { name := "logbookWrites", fn := fun _ => fun
  | [d1, d2, d3] => { results := [.lit (.bool false)], args := [d1, d2, d3] }
  | _ => none }
def LogbookWritesWrongFalsely : Prop := logbookWritesRow.holds Try.pinned (OpenSpec.ofChange logbookWritesWrong)

/-- 'shuntertop.ShunterTorn': WHATEVER THE INPUT: true; the input reads as it did. -/
def shunterTornSpec : ChangeSpec := { name := "shunterTorn", fn := fun _ => fun
  | [d1, d2, d3, d4, d5] => { results := [.lit (.bool true)], args := [d1, d2, d3, d4, d5] }
  | _ => none }
def shunterTornRow : OpenClaim := { program := "ythlllcmffgdcmaa", sum := "3b81fe9904f68dbca40855e763d1ed4312de76d3086c9ae914f2bc48ab2d2087", func := "shunter/shuntertop.ShunterTorn", spec := "shunterTorn", unfollowed := true, recurses := true, apart := false }
def ShunterTornSaid : Prop := shunterTornRow.holds Try.pinned (OpenSpec.ofChange shunterTornSpec)

/-- ITS FALSE NEIGHBOUR: 'it returns false'. Refute it at one input. -/
def shunterTornWrong : ChangeSpec := { name := "shunterTorn", fn := fun _ => fun
  | [d1, d2, d3, d4, d5] => { results := [.lit (.bool false)], args := [d1, d2, d3, d4, d5] }
  | _ => none }
def ShunterTornWrongFalsely : Prop := shunterTornRow.holds Try.pinned (OpenSpec.ofChange shunterTornWrong)

/- THE SECOND FORM. 'bulk': how many values and letters a reading holds, each counted each time it is reached (what is shared counts as often as it is met; a slice's spare places count too). A statement '..UptoSaid' is the law's where the arguments, and the package variables that the reading takes, are together of bulk at most 1048576: NARROWER than '..Said'. Prove '..Said' where nothing that the law and all that it calls make is longer than what came in: it says more and counts as full. Else prove '..UptoSaid'. A law counts once. -/
mutual
def uptoBulk {H : Type} : DataW H → Nat
  | .lit (.string bytes) => bytes.length + 1
  | .lit _ => 1
  | .nil => 1
  | .ptr d => uptoBulk d + 1
  | .slice elems spare => uptoBulkAll elems + uptoBulkAll spare + 1
  | .agg parts => uptoBulkAll parts + 1
  | .iface _ d => uptoBulk d + 1
  | .map entries => uptoBulkEntries entries + 1
  | .held _ => 1
def uptoBulkAll {H : Type} : List (DataW H) → Nat
  | [] => 0
  | d :: r => uptoBulk d + uptoBulkAll r
def uptoBulkEntries {H : Type} : List (Lit × DataW H) → Nat
  | [] => 0
  | x :: r => uptoBulkEntry x + uptoBulkEntries r
def uptoBulkEntry {H : Type} : Lit × DataW H → Nat
  | (.string bytes, d) => bytes.length + uptoBulk d + 1
  | (_, d) => uptoBulk d + 1
 end
def uptoSmall : (H : Type) → List (DataW H) → Bool := fun _ ds => decide (uptoBulkAll ds ≤ 1048576)
def OpenSpec.upto (s : _root_.Go.ChangeSpec) : _root_.Go.OpenSpec := { _root_.Go.OpenSpec.ofChange s with cond := some uptoSmall }

/-- 'shunterlaw02.RecordCuts', WHERE WHAT IT READS IS OF BULK AT MOST 1048576: true; the input reads as it did. -/
def recordCutsUptoRow : OpenClaim := { program := "ythlllcmffgdcmaa", sum := "3b81fe9904f68dbca40855e763d1ed4312de76d3086c9ae914f2bc48ab2d2087", func := "shunter/shunterlaw02.RecordCuts", spec := "recordCuts", apart := false, narrowed := true }
def RecordCutsUptoSaid : Prop := recordCutsUptoRow.holds Try.pinned (OpenSpec.upto recordCutsSpec)

/-- 'shunterlaw02.RecordBack', WHERE WHAT IT READS IS OF BULK AT MOST 1048576: true; the input reads as it did. -/
def recordBackUptoRow : OpenClaim := { program := "ythlllcmffgdcmaa", sum := "3b81fe9904f68dbca40855e763d1ed4312de76d3086c9ae914f2bc48ab2d2087", func := "shunter/shunterlaw02.RecordBack", spec := "recordBack", recurses := true, apart := false, narrowed := true }
def RecordBackUptoSaid : Prop := recordBackUptoRow.holds Try.pinned (OpenSpec.upto recordBackSpec)

/-- 'shunterlaw02.RecordReads', WHERE WHAT IT READS IS OF BULK AT MOST 1048576: true; the input reads as it did. -/
def recordReadsUptoRow : OpenClaim := { program := "ythlllcmffgdcmaa", sum := "3b81fe9904f68dbca40855e763d1ed4312de76d3086c9ae914f2bc48ab2d2087", func := "shunter/shunterlaw02.RecordReads", spec := "recordReads", apart := false, narrowed := true }
def RecordReadsUptoSaid : Prop := recordReadsUptoRow.holds Try.pinned (OpenSpec.upto recordReadsSpec)

/-- 'shunterlaw05.SegmentBack', WHERE WHAT IT READS IS OF BULK AT MOST 1048576: true; the input reads as it did. -/
def segmentBackUptoRow : OpenClaim := { program := "ythlllcmffgdcmaa", sum := "3b81fe9904f68dbca40855e763d1ed4312de76d3086c9ae914f2bc48ab2d2087", func := "shunter/shunterlaw05.SegmentBack", spec := "segmentBack", recurses := true, apart := false, narrowed := true }
def SegmentBackUptoSaid : Prop := segmentBackUptoRow.holds Try.pinned (OpenSpec.upto segmentBackSpec)

/-- 'shunterlaw05.SegmentOpens', WHERE WHAT IT READS IS OF BULK AT MOST 1048576: true; the input reads as it did. -/
def segmentOpensUptoRow : OpenClaim := { program := "ythlllcmffgdcmaa", sum := "3b81fe9904f68dbca40855e763d1ed4312de76d3086c9ae914f2bc48ab2d2087", func := "shunter/shunterlaw05.SegmentOpens", spec := "segmentOpens", recurses := true, apart := false, narrowed := true }
def SegmentOpensUptoSaid : Prop := segmentOpensUptoRow.holds Try.pinned (OpenSpec.upto segmentOpensSpec)

/-- 'shunterlaw05.SegmentSpoilt', WHERE WHAT IT READS IS OF BULK AT MOST 1048576: true; the input reads as it did. -/
def segmentSpoiltUptoRow : OpenClaim := { program := "ythlllcmffgdcmaa", sum := "3b81fe9904f68dbca40855e763d1ed4312de76d3086c9ae914f2bc48ab2d2087", func := "shunter/shunterlaw05.SegmentSpoilt", spec := "segmentSpoilt", apart := false, narrowed := true }
def SegmentSpoiltUptoSaid : Prop := segmentSpoiltUptoRow.holds Try.pinned (OpenSpec.upto segmentSpoiltSpec)

/-- 'shunterlaw05.SegmentBig', WHERE WHAT IT READS IS OF BULK AT MOST 1048576: true; the input reads as it did. -/
def segmentBigUptoRow : OpenClaim := { program := "ythlllcmffgdcmaa", sum := "3b81fe9904f68dbca40855e763d1ed4312de76d3086c9ae914f2bc48ab2d2087", func := "shunter/shunterlaw05.SegmentBig", spec := "segmentBig", apart := false, narrowed := true }
def SegmentBigUptoSaid : Prop := segmentBigUptoRow.holds Try.pinned (OpenSpec.upto segmentBigSpec)

/-- 'shunterlaw05.SegmentScans', WHERE WHAT IT READS IS OF BULK AT MOST 1048576: true; the input reads as it did. -/
def segmentScansUptoRow : OpenClaim := { program := "ythlllcmffgdcmaa", sum := "3b81fe9904f68dbca40855e763d1ed4312de76d3086c9ae914f2bc48ab2d2087", func := "shunter/shunterlaw05.SegmentScans", spec := "segmentScans", unfollowed := true, recurses := true, apart := false, narrowed := true }
def SegmentScansUptoSaid : Prop := segmentScansUptoRow.holds Try.pinned (OpenSpec.upto segmentScansSpec)

/-- 'shunterlaw05.SegmentTorn', WHERE WHAT IT READS IS OF BULK AT MOST 1048576: true; the input reads as it did. -/
def segmentTornUptoRow : OpenClaim := { program := "ythlllcmffgdcmaa", sum := "3b81fe9904f68dbca40855e763d1ed4312de76d3086c9ae914f2bc48ab2d2087", func := "shunter/shunterlaw05.SegmentTorn", spec := "segmentTorn", unfollowed := true, recurses := true, apart := false, narrowed := true }
def SegmentTornUptoSaid : Prop := segmentTornUptoRow.holds Try.pinned (OpenSpec.upto segmentTornSpec)

/-- 'shunterlaw06.LogbookMany', WHERE WHAT IT READS IS OF BULK AT MOST 1048576: true; the input reads as it did. -/
def logbookManyUptoRow : OpenClaim := { program := "ythlllcmffgdcmaa", sum := "3b81fe9904f68dbca40855e763d1ed4312de76d3086c9ae914f2bc48ab2d2087", func := "shunter/shunterlaw06.LogbookMany", spec := "logbookMany", unfollowed := true, recurses := true, apart := false, narrowed := true }
def LogbookManyUptoSaid : Prop := logbookManyUptoRow.holds Try.pinned (OpenSpec.upto logbookManySpec)

/-- 'shunterlaw06.LogbookWrites', WHERE WHAT IT READS IS OF BULK AT MOST 1048576: true; the input reads as it did. -/
def logbookWritesUptoRow : OpenClaim := { program := "ythlllcmffgdcmaa", sum := "3b81fe9904f68dbca40855e763d1ed4312de76d3086c9ae914f2bc48ab2d2087", func := "shunter/shunterlaw06.LogbookWrites", spec := "logbookWrites", unfollowed := true, recurses := true, apart := false, narrowed := true }
def LogbookWritesUptoSaid : Prop := logbookWritesUptoRow.holds Try.pinned (OpenSpec.upto logbookWritesSpec)

/-- 'shuntertop.ShunterTorn', WHERE WHAT IT READS IS OF BULK AT MOST 1048576: true; the input reads as it did. -/
def shunterTornUptoRow : OpenClaim := { program := "ythlllcmffgdcmaa", sum := "3b81fe9904f68dbca40855e763d1ed4312de76d3086c9ae914f2bc48ab2d2087", func := "shunter/shuntertop.ShunterTorn", spec := "shunterTorn", unfollowed := true, recurses := true, apart := false, narrowed := true }
def ShunterTornUptoSaid : Prop := shunterTornUptoRow.holds Try.pinned (OpenSpec.upto shunterTornSpec)

end Rows
end Go.Proofs.Ythlllcmffgdcmaa

/-
  No cell of these rows narrows 'for every input' (looked for: loops, veiled, ifaces, maps, wideKeys, modest, calm, conditions, laid).
  DERIVED. THE GIVEN ROWS OF THIS SEAT. 11 by the template 'for every input the law returns true; each argument reads behind the call as it read before'; 0 by the template 'total and deterministic' (their statements: YtnlammgemaapnaaTotals.lean).
  GIVEN WITH THE SEED: the statements are not yours to turn. If you find one false, say at which input.
  Laid BY PROGRAM, IN A SANDBOX (cutbox-rows.mjs): the forced cells as the released guide's own fill.sh prints them over the translation 4b1fa05c1316dd72… (all of the seat's roots in one cut). By AI agents, Wed Nov 11 2026. No macro, syntax, notation, axiom, sorry.
-/
import Derived.Test.YtnlammgemaapnaaChecked
import GoSem.Claim
import GoSem.ClaimJoined
import GoSem.ClaimMapViews
import Derived.JoinedTies
import Derived.KernelRfl
namespace Go.Proofs.Ytnlammgemaapnaa
/- THE CELL 'sum', in the pinned program and in every row, IS THE sha256 OF THE DUMP (.gsa) THAT YtnlammgemaapnaaProg.lean LOADS. Nothing in Lean hashes anything: it is a label: what it is worth is what the hold of that sum in a sandbox is worth. -/
noncomputable def Try.pinned : Pinned := { name := "ytnlammgemaapnaa", sum := "4b1fa05c1316dd72867b0a5eed3fcb1d01c65829c6da3ab004acf0766a5882a6", checked := Try.checked }
namespace Rows
def none {H : Type} : Left H := { results := [], args := [] }

/-- 'cashboxlaw07.RecordReads': WHATEVER THE INPUT: true; the input reads as it did. -/
def recordReadsSpec : ChangeSpec := { name := "recordReads", fn := fun _ => fun
  | [d] => { results := [.lit (.bool true)], args := [d] }
  | _ => none }
def recordReadsRow : OpenClaim := { program := "ytnlammgemaapnaa", sum := "4b1fa05c1316dd72867b0a5eed3fcb1d01c65829c6da3ab004acf0766a5882a6", func := "cashbox/cashboxlaw07.RecordReads", spec := "recordReads", unfollowed := true, recurses := true, apart := false }
def RecordReadsSaid : Prop := recordReadsRow.holds Try.pinned (OpenSpec.ofChange recordReadsSpec)

/-- ITS FALSE NEIGHBOUR: 'it returns false'. Refute it at one input. -/
def recordReadsWrong : ChangeSpec := { name := "recordReads", fn := fun _ => fun
  | [d] => { results := [.lit (.bool false)], args := [d] }
  | _ => none }
def RecordReadsWrongFalsely : Prop := recordReadsRow.holds Try.pinned (OpenSpec.ofChange recordReadsWrong)

/-- 'cashboxlaw07.RecordShort': WHATEVER THE INPUT: true; the input reads as it did. -/
def recordShortSpec : ChangeSpec := { name := "recordShort", fn := fun _ => fun
  | [d1, d2, d3] => { results := [.lit (.bool true)], args := [d1, d2, d3] }
  | _ => none }
def recordShortRow : OpenClaim := { program := "ytnlammgemaapnaa", sum := "4b1fa05c1316dd72867b0a5eed3fcb1d01c65829c6da3ab004acf0766a5882a6", func := "cashbox/cashboxlaw07.RecordShort", spec := "recordShort", unfollowed := true, recurses := true, apart := false }
def RecordShortSaid : Prop := recordShortRow.holds Try.pinned (OpenSpec.ofChange recordShortSpec)

/-- ITS FALSE NEIGHBOUR: 'it returns false'. Refute it at one input. -/
def recordShortWrong : ChangeSpec := { name := "recordShort", fn := fun _ => fun
  | [d1, d2, d3] => { results := [.lit (.bool false)], args := [d1, d2, d3] }
  | _ => none }
def RecordShortWrongFalsely : Prop := recordShortRow.holds Try.pinned (OpenSpec.ofChange recordShortWrong)

/-- 'cashboxlaw07.RecordBack': WHATEVER THE INPUT: true; the input reads as it did. -/
def recordBackSpec : ChangeSpec := { name := "recordBack", fn := fun _ => fun
  | [d1, d2] => { results := [.lit (.bool true)], args := [d1, d2] }
  | _ => none }
def recordBackRow : OpenClaim := { program := "ytnlammgemaapnaa", sum := "4b1fa05c1316dd72867b0a5eed3fcb1d01c65829c6da3ab004acf0766a5882a6", func := "cashbox/cashboxlaw07.RecordBack", spec := "recordBack", unfollowed := true, recurses := true, apart := false }
def RecordBackSaid : Prop := recordBackRow.holds Try.pinned (OpenSpec.ofChange recordBackSpec)

/-- ITS FALSE NEIGHBOUR: 'it returns false'. Refute it at one input. -/
def recordBackWrong : ChangeSpec := { name := "recordBack", fn := fun _ => fun
  | [d1, d2] => { results := [.lit (.bool false)], args := [d1, d2] }
  | _ => none }
def RecordBackWrongFalsely : Prop := recordBackRow.holds Try.pinned (OpenSpec.ofChange recordBackWrong)

/-- 'cashboxlaw07.RecordNames': WHATEVER THE INPUT: true; the input reads as it did. -/
def recordNamesSpec : ChangeSpec := { name := "recordNames", fn := fun _ => fun
  | [d1, d2, d3] => { results := [.lit (.bool true)], args := [d1, d2, d3] }
  | _ => none }
def recordNamesRow : OpenClaim := { program := "ytnlammgemaapnaa", sum := "4b1fa05c1316dd72867b0a5eed3fcb1d01c65829c6da3ab004acf0766a5882a6", func := "cashbox/cashboxlaw07.RecordNames", spec := "recordNames", unfollowed := true, recurses := true, apart := false }
def RecordNamesSaid : Prop := recordNamesRow.holds Try.pinned (OpenSpec.ofChange recordNamesSpec)

/-- ITS FALSE NEIGHBOUR: 'it returns false'. Refute it at one input. -/
def recordNamesWrong : ChangeSpec := { name := "recordNames", fn := fun _ => fun
  | [d1, d2, d3] => { results := [.lit (.bool false)], args := [d1, d2, d3] }
  | _ => none }
def RecordNamesWrongFalsely : Prop := recordNamesRow.holds Try.pinned (OpenSpec.ofChange recordNamesWrong)

/-- 'cashboxlaw07.RecordTells': WHATEVER THE INPUT: true; the input reads as it did. -/
def recordTellsSpec : ChangeSpec := { name := "recordTells", fn := fun _ => fun
  | [d1, d2] => { results := [.lit (.bool true)], args := [d1, d2] }
  | _ => none }
def recordTellsRow : OpenClaim := { program := "ytnlammgemaapnaa", sum := "4b1fa05c1316dd72867b0a5eed3fcb1d01c65829c6da3ab004acf0766a5882a6", func := "cashbox/cashboxlaw07.RecordTells", spec := "recordTells", unfollowed := true, recurses := true, apart := false }
def RecordTellsSaid : Prop := recordTellsRow.holds Try.pinned (OpenSpec.ofChange recordTellsSpec)

/-- ITS FALSE NEIGHBOUR: 'it returns false'. Refute it at one input. -/
def recordTellsWrong : ChangeSpec := { name := "recordTells", fn := fun _ => fun
  | [d1, d2] => { results := [.lit (.bool false)], args := [d1, d2] }
  | _ => none }
def RecordTellsWrongFalsely : Prop := recordTellsRow.holds Try.pinned (OpenSpec.ofChange recordTellsWrong)

/-- 'cashboxlaw17.EpochRises': WHATEVER THE INPUT: true; the input reads as it did. -/
def epochRisesSpec : ChangeSpec := { name := "epochRises", fn := fun _ => fun
  | [d1, d2] => { results := [.lit (.bool true)], args := [d1, d2] }
  | _ => none }
def epochRisesRow : OpenClaim := { program := "ytnlammgemaapnaa", sum := "4b1fa05c1316dd72867b0a5eed3fcb1d01c65829c6da3ab004acf0766a5882a6", func := "cashbox/cashboxlaw17.EpochRises", spec := "epochRises", unfollowed := true, recurses := true, apart := false }
def EpochRisesSaid : Prop := epochRisesRow.holds Try.pinned (OpenSpec.ofChange epochRisesSpec)

/-- ITS FALSE NEIGHBOUR: 'it returns false'. Refute it at one input. -/
def epochRisesWrong : ChangeSpec := { name := "epochRises", fn := fun _ => fun
  | [d1, d2] => { results := [.lit (.bool false)], args := [d1, d2] }
  | _ => none }
def EpochRisesWrongFalsely : Prop := epochRisesRow.holds Try.pinned (OpenSpec.ofChange epochRisesWrong)

/-- 'cashboxlaw17.EpochOld': WHATEVER THE INPUT: true; the input reads as it did. -/
def epochOldSpec : ChangeSpec := { name := "epochOld", fn := fun _ => fun
  | [d1, d2] => { results := [.lit (.bool true)], args := [d1, d2] }
  | _ => none }
def epochOldRow : OpenClaim := { program := "ytnlammgemaapnaa", sum := "4b1fa05c1316dd72867b0a5eed3fcb1d01c65829c6da3ab004acf0766a5882a6", func := "cashbox/cashboxlaw17.EpochOld", spec := "epochOld", unfollowed := true, recurses := true, apart := false }
def EpochOldSaid : Prop := epochOldRow.holds Try.pinned (OpenSpec.ofChange epochOldSpec)

/-- ITS FALSE NEIGHBOUR: 'it returns false'. Refute it at one input. -/
def epochOldWrong : ChangeSpec := { name := "epochOld", fn := fun _ => fun
  | [d1, d2] => { results := [.lit (.bool false)], args := [d1, d2] }
  | _ => none }
def EpochOldWrongFalsely : Prop := epochOldRow.holds Try.pinned (OpenSpec.ofChange epochOldWrong)

/-- 'cashboxlaw15.WireWays': WHATEVER THE INPUT: true; the input reads as it did. -/
def wireWaysSpec : ChangeSpec := { name := "wireWays", fn := fun _ => fun
  | [d] => { results := [.lit (.bool true)], args := [d] }
  | _ => none }
def wireWaysRow : OpenClaim := { program := "ytnlammgemaapnaa", sum := "4b1fa05c1316dd72867b0a5eed3fcb1d01c65829c6da3ab004acf0766a5882a6", func := "cashbox/cashboxlaw15.WireWays", spec := "wireWays", unfollowed := true, recurses := true, apart := false }
def WireWaysSaid : Prop := wireWaysRow.holds Try.pinned (OpenSpec.ofChange wireWaysSpec)

/-- ITS FALSE NEIGHBOUR: 'it returns false'. Refute it at one input. -/
def wireWaysWrong : ChangeSpec := { name := "wireWays", fn := fun _ => fun
  | [d] => { results := [.lit (.bool false)], args := [d] }
  | _ => none }
def WireWaysWrongFalsely : Prop := wireWaysRow.holds Try.pinned (OpenSpec.ofChange wireWaysWrong)

/-- 'cashboxlaw17.EpochMeets': WHATEVER THE INPUT: true; the input reads as it did. -/
def epochMeetsSpec : ChangeSpec := { name := "epochMeets", fn := fun _ => fun
  | [d1, d2, d3] => { results := [.lit (.bool true)], args := [d1, d2, d3] }
  | _ => none }
def epochMeetsRow : OpenClaim := { program := "ytnlammgemaapnaa", sum := "4b1fa05c1316dd72867b0a5eed3fcb1d01c65829c6da3ab004acf0766a5882a6", func := "cashbox/cashboxlaw17.EpochMeets", spec := "epochMeets", unfollowed := true, recurses := true, apart := false }
def EpochMeetsSaid : Prop := epochMeetsRow.holds Try.pinned (OpenSpec.ofChange epochMeetsSpec)

/-- ITS FALSE NEIGHBOUR: 'it returns false'. Refute it at one input. -/
def epochMeetsWrong : ChangeSpec := { name := "epochMeets", fn := fun _ => fun
  | [d1, d2, d3] => { results := [.lit (.bool false)], args := [d1, d2, d3] }
  | _ => none }
def EpochMeetsWrongFalsely : Prop := epochMeetsRow.holds Try.pinned (OpenSpec.ofChange epochMeetsWrong)

/-- 'cashboxlaw15.WireReads': WHATEVER THE INPUT: true; the input reads as it did. -/
def wireReadsSpec : ChangeSpec := { name := "wireReads", fn := fun _ => fun
  | [d] => { results := [.lit (.bool true)], args := [d] }
  | _ => none }
def wireReadsRow : OpenClaim := { program := "ytnlammgemaapnaa", sum := "4b1fa05c1316dd72867b0a5eed3fcb1d01c65829c6da3ab004acf0766a5882a6", func := "cashbox/cashboxlaw15.WireReads", spec := "wireReads", unfollowed := true, recurses := true, apart := false }
def WireReadsSaid : Prop := wireReadsRow.holds Try.pinned (OpenSpec.ofChange wireReadsSpec)

/-- ITS FALSE NEIGHBOUR: 'it returns false'. Refute it at one input. -/
def wireReadsWrong : ChangeSpec := { name := "wireReads", fn := fun _ => fun
  | [d] => { results := [.lit (.bool false)], args := [d] }
  | _ => none }
def WireReadsWrongFalsely : Prop := wireReadsRow.holds Try.pinned (OpenSpec.ofChange wireReadsWrong)

/-- 'cashboxlaw15.WireBack': WHATEVER THE INPUT: true; the input reads as it did. -/
def wireBackSpec : ChangeSpec := { name := "wireBack", fn := fun _ => fun
  | [d1, d2, d3] => { results := [.lit (.bool true)], args := [d1, d2, d3] }
  | _ => none }
def wireBackRow : OpenClaim := { program := "ytnlammgemaapnaa", sum := "4b1fa05c1316dd72867b0a5eed3fcb1d01c65829c6da3ab004acf0766a5882a6", func := "cashbox/cashboxlaw15.WireBack", spec := "wireBack", unfollowed := true, recurses := true, apart := false }
def WireBackSaid : Prop := wireBackRow.holds Try.pinned (OpenSpec.ofChange wireBackSpec)

/-- ITS FALSE NEIGHBOUR: 'it returns false'. Refute it at one input. -/
def wireBackWrong : ChangeSpec := { name := "wireBack", fn := fun _ => fun
  | [d1, d2, d3] => { results := [.lit (.bool false)], args := [d1, d2, d3] }
  | _ => none }
def WireBackWrongFalsely : Prop := wireBackRow.holds Try.pinned (OpenSpec.ofChange wireBackWrong)

/- THE SECOND FORM. 'bulk': how many values and letters a reading holds, each counted each time it is reached (what is shared counts as often as it is met; a slice's spare places count too). A statement '..UptoSaid' is the law's where the arguments, and the package variables that the reading takes, are together of bulk at most 1048576: NARROWER than '..Said'. Prove '..Said' where nothing that the law and all that it calls make is longer than what came in: it says more and counts as full. Else prove '..UptoSaid'. A law counts once. -/
mutual
def uptoBulk {H : Type} : DataW H → Nat
  | .lit (.string bytes) => bytes.length + 1
  | .lit _ => 1
  | .nil => 1
  | .ptr d => uptoBulk d + 1
  | .slice elems spare => uptoBulkAll elems + uptoBulkAll spare + 1
  | .agg parts => uptoBulkAll parts + 1
  | .iface _ d => uptoBulk d + 1
  | .map entries => uptoBulkEntries entries + 1
  | .held _ => 1
def uptoBulkAll {H : Type} : List (DataW H) → Nat
  | [] => 0
  | d :: r => uptoBulk d + uptoBulkAll r
def uptoBulkEntries {H : Type} : List (Lit × DataW H) → Nat
  | [] => 0
  | x :: r => uptoBulkEntry x + uptoBulkEntries r
def uptoBulkEntry {H : Type} : Lit × DataW H → Nat
  | (.string bytes, d) => bytes.length + uptoBulk d + 1
  | (_, d) => uptoBulk d + 1
 end
def uptoSmall : (H : Type) → List (DataW H) → Bool := fun _ ds => decide (uptoBulkAll ds ≤ 1048576)
def OpenSpec.upto (s : _root_.Go.ChangeSpec) : _root_.Go.OpenSpec := { _root_.Go.OpenSpec.ofChange s with cond := some uptoSmall }

/-- 'cashboxlaw07.RecordReads', WHERE WHAT IT READS IS OF BULK AT MOST 1048576: true; the input reads as it did. -/
def recordReadsUptoRow : OpenClaim := { program := "ytnlammgemaapnaa", sum := "4b1fa05c1316dd72867b0a5eed3fcb1d01c65829c6da3ab004acf0766a5882a6", func := "cashbox/cashboxlaw07.RecordReads", spec := "recordReads", unfollowed := true, recurses := true, apart := false, narrowed := true }
def RecordReadsUptoSaid : Prop := recordReadsUptoRow.holds Try.pinned (OpenSpec.upto recordReadsSpec)

/-- 'cashboxlaw07.RecordShort', WHERE WHAT IT READS IS OF BULK AT MOST 1048576: true; the input reads as it did. -/
def recordShortUptoRow : OpenClaim := { program := "ytnlammgemaapnaa", sum := "4b1fa05c1316dd72867b0a5eed3fcb1d01c65829c6da3ab004acf0766a5882a6", func := "cashbox/cashboxlaw07.RecordShort", spec := "recordShort", unfollowed := true, recurses := true, apart := false, narrowed := true }
def RecordShortUptoSaid : Prop := recordShortUptoRow.holds Try.pinned (OpenSpec.upto recordShortSpec)

/-- 'cashboxlaw07.RecordBack', WHERE WHAT IT READS IS OF BULK AT MOST 1048576: true; the input reads as it did. -/
def recordBackUptoRow : OpenClaim := { program := "ytnlammgemaapnaa", sum := "4b1fa05c1316dd72867b0a5eed3fcb1d01c65829c6da3ab004acf0766a5882a6", func := "cashbox/cashboxlaw07.RecordBack", spec := "recordBack", unfollowed := true, recurses := true, apart := false, narrowed := true }
def RecordBackUptoSaid : Prop := recordBackUptoRow.holds Try.pinned (OpenSpec.upto recordBackSpec)

/-- 'cashboxlaw07.RecordNames', WHERE WHAT IT READS IS OF BULK AT MOST 1048576: true; the input reads as it did. -/
def recordNamesUptoRow : OpenClaim := { program := "ytnlammgemaapnaa", sum := "4b1fa05c1316dd72867b0a5eed3fcb1d01c65829c6da3ab004acf0766a5882a6", func := "cashbox/cashboxlaw07.RecordNames", spec := "recordNames", unfollowed := true, recurses := true, apart := false, narrowed := true }
def RecordNamesUptoSaid : Prop := recordNamesUptoRow.holds Try.pinned (OpenSpec.upto recordNamesSpec)

/-- 'cashboxlaw07.RecordTells', WHERE WHAT IT READS IS OF BULK AT MOST 1048576: true; the input reads as it did. -/
def recordTellsUptoRow : OpenClaim := { program := "ytnlammgemaapnaa", sum := "4b1fa05c1316dd72867b0a5eed3fcb1d01c65829c6da3ab004acf0766a5882a6", func := "cashbox/cashboxlaw07.RecordTells", spec := "recordTells", unfollowed := true, recurses := true, apart := false, narrowed := true }
def RecordTellsUptoSaid : Prop := recordTellsUptoRow.holds Try.pinned (OpenSpec.upto recordTellsSpec)

/-- 'cashboxlaw17.EpochRises', WHERE WHAT IT READS IS OF BULK AT MOST 1048576: true; the input reads as it did. -/
def epochRisesUptoRow : OpenClaim := { program := "ytnlammgemaapnaa", sum := "4b1fa05c1316dd72867b0a5eed3fcb1d01c65829c6da3ab004acf0766a5882a6", func := "cashbox/cashboxlaw17.EpochRises", spec := "epochRises", unfollowed := true, recurses := true, apart := false, narrowed := true }
def EpochRisesUptoSaid : Prop := epochRisesUptoRow.holds Try.pinned (OpenSpec.upto epochRisesSpec)

/-- 'cashboxlaw17.EpochOld', WHERE WHAT IT READS IS OF BULK AT MOST 1048576: true; the input reads as it did. -/
def epochOldUptoRow : OpenClaim := { program := "ytnlammgemaapnaa", sum := "4b1fa05c1316dd72867b0a5eed3fcb1d01c65829c6da3ab004acf0766a5882a6", func := "cashbox/cashboxlaw17.EpochOld", spec := "epochOld", unfollowed := true, recurses := true, apart := false, narrowed := true }
def EpochOldUptoSaid : Prop := epochOldUptoRow.holds Try.pinned (OpenSpec.upto epochOldSpec)

/-- 'cashboxlaw15.WireWays', WHERE WHAT IT READS IS OF BULK AT MOST 1048576: true; the input reads as it did. -/
def wireWaysUptoRow : OpenClaim := { program := "ytnlammgemaapnaa", sum := "4b1fa05c1316dd72867b0a5eed3fcb1d01c65829c6da3ab004acf0766a5882a6", func := "cashbox/cashboxlaw15.WireWays", spec := "wireWays", unfollowed := true, recurses := true, apart := false, narrowed := true }
def WireWaysUptoSaid : Prop := wireWaysUptoRow.holds Try.pinned (OpenSpec.upto wireWaysSpec)

/-- 'cashboxlaw17.EpochMeets', WHERE WHAT IT READS IS OF BULK AT MOST 1048576: true; the input reads as it did. -/
def epochMeetsUptoRow : OpenClaim := { program := "ytnlammgemaapnaa", sum := "4b1fa05c1316dd72867b0a5eed3fcb1d01c65829c6da3ab004acf0766a5882a6", func := "cashbox/cashboxlaw17.EpochMeets", spec := "epochMeets", unfollowed := true, recurses := true, apart := false, narrowed := true }
def EpochMeetsUptoSaid : Prop := epochMeetsUptoRow.holds Try.pinned (OpenSpec.upto epochMeetsSpec)

/-- 'cashboxlaw15.WireReads', WHERE WHAT IT READS IS OF BULK AT MOST 1048576: true; the input reads as it did. -/
def wireReadsUptoRow : OpenClaim := { program := "ytnlammgemaapnaa", sum := "4b1fa05c1316dd72867b0a5eed3fcb1d01c65829c6da3ab004acf0766a5882a6", func := "cashbox/cashboxlaw15.WireReads", spec := "wireReads", unfollowed := true, recurses := true, apart := false, narrowed := true }
def WireReadsUptoSaid : Prop := wireReadsUptoRow.holds Try.pinned (OpenSpec.upto wireReadsSpec)

/-- 'cashboxlaw15.WireBack', WHERE WHAT IT READS IS OF BULK AT MOST 1048576: true; the input reads as it did. -/
def wireBackUptoRow : OpenClaim := { program := "ytnlammgemaapnaa", sum := "4b1fa05c1316dd72867b0a5eed3fcb1d01c65829c6da3ab004acf0766a5882a6", func := "cashbox/cashboxlaw15.WireBack", spec := "wireBack", unfollowed := true, recurses := true, apart := false, narrowed := true }
def WireBackUptoSaid : Prop := wireBackUptoRow.holds Try.pinned (OpenSpec.upto wireBackSpec)

end Rows
end Go.Proofs.Ytnlammgemaapnaa

/-
  No cell of these rows narrows 'for every input' (looked for: loops, veiled, ifaces, maps, wideKeys, modest, calm, conditions, laid).
  DERIVED. THE GIVEN ROWS OF THIS SEAT. 5 by the template 'for every input the law returns true; each argument reads behind the call as it read before'; 0 by the template 'total and deterministic' (their statements: YtodadonpfcefbaaTotals.lean).
  GIVEN WITH THE SEED: the statements are not yours to turn. If you find one false, say at which input.
  Laid BY PROGRAM, IN A SANDBOX (cutbox-rows.mjs): the forced cells as the released guide's own fill.sh prints them over the translation fbe3d3d81e97f746… (all of the seat's roots in one cut). By AI agents, Wed Nov 11 2026. No macro, syntax, notation, axiom, sorry.
-/
import Derived.Test.YtodadonpfcefbaaChecked
import GoSem.Claim
import GoSem.ClaimJoined
import GoSem.ClaimMapViews
import Derived.JoinedTies
import Derived.KernelRfl
namespace Go.Proofs.Ytodadonpfcefbaa
/- THE CELL 'sum', in the pinned program and in every row, IS THE sha256 OF THE DUMP (.gsa) THAT YtodadonpfcefbaaProg.lean LOADS. Nothing in Lean hashes anything: it is a label: what it is worth is what the hold of that sum in a sandbox is worth. -/
noncomputable def Try.pinned : Pinned := { name := "ytodadonpfcefbaa", sum := "fbe3d3d81e97f7466e6aede2152e54eb9df0bdc8d8725a654174269be1daab40", checked := Try.checked }
namespace Rows
def none {H : Type} : Left H := { results := [], args := [] }

/-- 'columbariumlaw11.DelsParts': WHATEVER THE INPUT: true; the input reads as it did. -/
def delsPartsSpec : ChangeSpec := { name := "delsParts", fn := fun _ => fun
  | [d1, d2] => { results := [.lit (.bool true)], args := [d1, d2] }
  | _ => none }
def delsPartsRow : OpenClaim := { program := "ytodadonpfcefbaa", sum := "fbe3d3d81e97f7466e6aede2152e54eb9df0bdc8d8725a654174269be1daab40", func := "columbarium/columbariumlaw11.DelsParts", spec := "delsParts", apart := false }
def DelsPartsSaid : Prop := delsPartsRow.holds Try.pinned (OpenSpec.ofChange delsPartsSpec)

/-- ITS FALSE NEIGHBOUR: 'it returns false'. Refute it at one input. -/
def delsPartsWrong : ChangeSpec := { name := "delsParts", fn := fun _ => fun
  | [d1, d2] => { results := [.lit (.bool false)], args := [d1, d2] }
  | _ => none }
def DelsPartsWrongFalsely : Prop := delsPartsRow.holds Try.pinned (OpenSpec.ofChange delsPartsWrong)

/-- 'columbariumlaw11.DelsPlays': WHATEVER THE INPUT: true; the input reads as it did. -/
def delsPlaysSpec : ChangeSpec := { name := "delsPlays", fn := fun _ => fun
  | [d1, d2, d3] => { results := [.lit (.bool true)], args := [d1, d2, d3] }
  | _ => none }
def delsPlaysRow : OpenClaim := { program := "ytodadonpfcefbaa", sum := "fbe3d3d81e97f7466e6aede2152e54eb9df0bdc8d8725a654174269be1daab40", func := "columbarium/columbariumlaw11.DelsPlays", spec := "delsPlays", apart := false }
def DelsPlaysSaid : Prop := delsPlaysRow.holds Try.pinned (OpenSpec.ofChange delsPlaysSpec)

/-- ITS FALSE NEIGHBOUR: 'it returns false'. Refute it at one input. -/
def delsPlaysWrong : ChangeSpec := { name := "delsPlays", fn := fun _ => fun
  | [d1, d2, d3] => { results := [.lit (.bool false)], args := [d1, d2, d3] }
  | _ => none }
def DelsPlaysWrongFalsely : Prop := delsPlaysRow.holds Try.pinned (OpenSpec.ofChange delsPlaysWrong)

/-- 'columbariumlaw11.DelsReads': WHATEVER THE INPUT: true; the input reads as it did. -/
def delsReadsSpec : ChangeSpec := { name := "delsReads", fn := fun _ => fun
  | [d1, d2, d3, d4, d5, d6] => { results := [.lit (.bool true)], args := [d1, d2, d3, d4, d5, d6] }
  | _ => none }
def delsReadsRow : OpenClaim := { program := "ytodadonpfcefbaa", sum := "fbe3d3d81e97f7466e6aede2152e54eb9df0bdc8d8725a654174269be1daab40", func := "columbarium/columbariumlaw11.DelsReads", spec := "delsReads", unfollowed := true, recurses := true, apart := false }
def DelsReadsSaid : Prop := delsReadsRow.holds Try.pinned (OpenSpec.ofChange delsReadsSpec)

/-- ITS FALSE NEIGHBOUR: 'it returns false'. Refute it at one input. -/
def delsReadsWrong : ChangeSpec := { name := "delsReads", fn := fun _ => fun
  | [d1, d2, d3, d4, d5, d6] => { results := [.lit (.bool false)], args := [d1, d2, d3, d4, d5, d6] }
  | _ => none }
def DelsReadsWrongFalsely : Prop := delsReadsRow.holds Try.pinned (OpenSpec.ofChange delsReadsWrong)

/-- 'columbariumlaw11.DelsNumbers': WHATEVER THE INPUT: true; the input reads as it did. -/
def delsNumbersSpec : ChangeSpec := { name := "delsNumbers", fn := fun _ => fun
  | [] => { results := [.lit (.bool true)], args := [] }
  | _ => none }
def delsNumbersRow : OpenClaim := { program := "ytodadonpfcefbaa", sum := "fbe3d3d81e97f7466e6aede2152e54eb9df0bdc8d8725a654174269be1daab40", func := "columbarium/columbariumlaw11.DelsNumbers", spec := "delsNumbers", unfollowed := true, recurses := true, apart := false }
def DelsNumbersSaid : Prop := delsNumbersRow.holds Try.pinned (OpenSpec.ofChange delsNumbersSpec)

/-- ITS FALSE NEIGHBOUR: 'it returns false'. Refute it at one input. -/
def delsNumbersWrong : ChangeSpec := { name := "delsNumbers", fn := fun _ => fun
  | [] => { results := [.lit (.bool false)], args := [] }
  | _ => none }
def DelsNumbersWrongFalsely : Prop := delsNumbersRow.holds Try.pinned (OpenSpec.ofChange delsNumbersWrong)

/-- 'columbariumlaw11.DelsBack': WHATEVER THE INPUT: true; the input reads as it did. -/
def delsBackSpec : ChangeSpec := { name := "delsBack", fn := fun _ => fun
  | [d1, d2, d3, d4] => { results := [.lit (.bool true)], args := [d1, d2, d3, d4] }
  | _ => none }
def delsBackRow : OpenClaim := { program := "ytodadonpfcefbaa", sum := "fbe3d3d81e97f7466e6aede2152e54eb9df0bdc8d8725a654174269be1daab40", func := "columbarium/columbariumlaw11.DelsBack", spec := "delsBack", unfollowed := true, recurses := true, apart := false }
def DelsBackSaid : Prop := delsBackRow.holds Try.pinned (OpenSpec.ofChange delsBackSpec)

/-- ITS FALSE NEIGHBOUR: 'it returns false'. Refute it at one input. -/
def delsBackWrong : ChangeSpec := { name := "delsBack", fn := fun _ => fun
  | [d1, d2, d3, d4] => { results := [.lit (.bool false)], args := [d1, d2, d3, d4] }
  | _ => none }
def DelsBackWrongFalsely : Prop := delsBackRow.holds Try.pinned (OpenSpec.ofChange delsBackWrong)

/- THE SECOND FORM. 'bulk': how many values and letters a reading holds, each counted each time it is reached (what is shared counts as often as it is met; a slice's spare places count too). A statement '..UptoSaid' is the law's where the arguments, and the package variables that the reading takes, are together of bulk at most 1048576: NARROWER than '..Said'. Prove '..Said' where nothing that the law and all that it calls make is longer than what came in: it says more and counts as full. Else prove '..UptoSaid'. A law counts once. -/
mutual
def uptoBulk {H : Type} : DataW H → Nat
  | .lit (.string bytes) => bytes.length + 1
  | .lit _ => 1
  | .nil => 1
  | .ptr d => uptoBulk d + 1
  | .slice elems spare => uptoBulkAll elems + uptoBulkAll spare + 1
  | .agg parts => uptoBulkAll parts + 1
  | .iface _ d => uptoBulk d + 1
  | .map entries => uptoBulkEntries entries + 1
  | .held _ => 1
def uptoBulkAll {H : Type} : List (DataW H) → Nat
  | [] => 0
  | d :: r => uptoBulk d + uptoBulkAll r
def uptoBulkEntries {H : Type} : List (Lit × DataW H) → Nat
  | [] => 0
  | x :: r => uptoBulkEntry x + uptoBulkEntries r
def uptoBulkEntry {H : Type} : Lit × DataW H → Nat
  | (.string bytes, d) => bytes.length + uptoBulk d + 1
  | (_, d) => uptoBulk d + 1
 end
def uptoSmall : (H : Type) → List (DataW H) → Bool := fun _ ds => decide (uptoBulkAll ds ≤ 1048576)
def OpenSpec.upto (s : _root_.Go.ChangeSpec) : _root_.Go.OpenSpec := { _root_.Go.OpenSpec.ofChange s with cond := some uptoSmall }

/-- 'columbariumlaw11.DelsParts', WHERE WHAT IT READS IS OF BULK AT MOST 1048576: true; the input reads as it did. -/
def delsPartsUptoRow : OpenClaim := { program := "ytodadonpfcefbaa", sum := "fbe3d3d81e97f7466e6aede2152e54eb9df0bdc8d8725a654174269be1daab40", func := "columbarium/columbariumlaw11.DelsParts", spec := "delsParts", apart := false, narrowed := true }
def DelsPartsUptoSaid : Prop := delsPartsUptoRow.holds Try.pinned (OpenSpec.upto delsPartsSpec)

/-- 'columbariumlaw11.DelsPlays', WHERE WHAT IT READS IS OF BULK AT MOST 1048576: true; the input reads as it did. -/
def delsPlaysUptoRow : OpenClaim := { program := "ytodadonpfcefbaa", sum := "fbe3d3d81e97f7466e6aede2152e54eb9df0bdc8d8725a654174269be1daab40", func := "columbarium/columbariumlaw11.DelsPlays", spec := "delsPlays", apart := false, narrowed := true }
def DelsPlaysUptoSaid : Prop := delsPlaysUptoRow.holds Try.pinned (OpenSpec.upto delsPlaysSpec)

/-- 'columbariumlaw11.DelsReads', WHERE WHAT IT READS IS OF BULK AT MOST 1048576: true; the input reads as it did. -/
def delsReadsUptoRow : OpenClaim := { program := "ytodadonpfcefbaa", sum := "fbe3d3d81e97f7466e6aede2152e54eb9df0bdc8d8725a654174269be1daab40", func := "columbarium/columbariumlaw11.DelsReads", spec := "delsReads", unfollowed := true, recurses := true, apart := false, narrowed := true }
def DelsReadsUptoSaid : Prop := delsReadsUptoRow.holds Try.pinned (OpenSpec.upto delsReadsSpec)

/-- 'columbariumlaw11.DelsNumbers', WHERE WHAT IT READS IS OF BULK AT MOST 1048576: true; the input reads as it did. -/
def delsNumbersUptoRow : OpenClaim := { program := "ytodadonpfcefbaa", sum := "fbe3d3d81e97f7466e6aede2152e54eb9df0bdc8d8725a654174269be1daab40", func := "columbarium/columbariumlaw11.DelsNumbers", spec := "delsNumbers", unfollowed := true, recurses := true, apart := false, narrowed := true }
def DelsNumbersUptoSaid : Prop := delsNumbersUptoRow.holds Try.pinned (OpenSpec.upto delsNumbersSpec)

/-- 'columbariumlaw11.DelsBack', WHERE WHAT IT READS IS OF BULK AT MOST 1048576: true; the input reads as it did. -/
def delsBackUptoRow : OpenClaim := { program := "ytodadonpfcefbaa", sum := "fbe3d3d81e97f7466e6aede2152e54eb9df0bdc8d8725a654174269be1daab40", func := "columbarium/columbariumlaw11.DelsBack", spec := "delsBack", unfollowed := true, recurses := true, apart := false, narrowed := true }
def DelsBackUptoSaid : Prop := delsBackUptoRow.holds Try.pinned (OpenSpec.upto delsBackSpec)

end Rows
end Go.Proofs.Ytodadonpfcefbaa

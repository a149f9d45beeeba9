/-
  No cell of these rows narrows 'for every input' (looked for: loops, veiled, ifaces, maps, wideKeys, modest, calm, conditions, laid).
  DERIVED. THE GIVEN ROWS OF THIS SEAT. 6 by the template 'for every input the law returns true; each argument reads behind the call as it read before'; 0 by the template 'total and deterministic' (their statements: YtpnnfkefddkjcaaTotals.lean).
  GIVEN WITH THE SEED: the statements are not yours to turn. If you find one false, say at which input.
  Laid BY PROGRAM, IN A SANDBOX (cutbox-rows.mjs): the forced cells as the released guide's own fill.sh prints them over the translation d616926e4891ca04… (all of the seat's roots in one cut). By AI agents, Wed Nov 11 2026. No macro, syntax, notation, axiom, sorry.
-/
import Derived.Test.YtpnnfkefddkjcaaChecked
import GoSem.Claim
import GoSem.ClaimJoined
import GoSem.ClaimMapViews
import Derived.JoinedTies
import Derived.KernelRfl
namespace Go.Proofs.Ytpnnfkefddkjcaa
/- THE CELL 'sum', in the pinned program and in every row, IS THE sha256 OF THE DUMP (.gsa) THAT YtpnnfkefddkjcaaProg.lean LOADS. Nothing in Lean hashes anything: it is a label: what it is worth is what the hold of that sum in a sandbox is worth. -/
noncomputable def Try.pinned : Pinned := { name := "ytpnnfkefddkjcaa", sum := "d616926e4891ca04c41d9d3f6716a322618bf862cddcf6cc786d3552026e7d8c", checked := Try.checked }
namespace Rows
def none {H : Type} : Left H := { results := [], args := [] }

/-- 'columbariumlaw5.RunsShort': WHATEVER THE INPUT: true; the input reads as it did. -/
def runsShortSpec : ChangeSpec := { name := "runsShort", fn := fun _ => fun
  | [d1, d2, d3] => { results := [.lit (.bool true)], args := [d1, d2, d3] }
  | _ => none }
def runsShortRow : OpenClaim := { program := "ytpnnfkefddkjcaa", sum := "d616926e4891ca04c41d9d3f6716a322618bf862cddcf6cc786d3552026e7d8c", func := "columbarium/columbariumlaw5.RunsShort", spec := "runsShort", apart := false }
def RunsShortSaid : Prop := runsShortRow.holds Try.pinned (OpenSpec.ofChange runsShortSpec)

/-- ITS FALSE NEIGHBOUR: 'it returns false'. Refute it at one input. -/
def runsShortWrong : ChangeSpec := { name := "runsShort", fn := fun _ => fun
  | [d1, d2, d3] => { results := [.lit (.bool false)], args := [d1, d2, d3] }
  | _ => none }
def RunsShortWrongFalsely : Prop := runsShortRow.holds Try.pinned (OpenSpec.ofChange runsShortWrong)

/-- 'columbariumlaw5.RunsNumbers': WHATEVER THE INPUT: true; the input reads as it did. -/
def runsNumbersSpec : ChangeSpec := { name := "runsNumbers", fn := fun _ => fun
  | [] => { results := [.lit (.bool true)], args := [] }
  | _ => none }
def runsNumbersRow : OpenClaim := { program := "ytpnnfkefddkjcaa", sum := "d616926e4891ca04c41d9d3f6716a322618bf862cddcf6cc786d3552026e7d8c", func := "columbarium/columbariumlaw5.RunsNumbers", spec := "runsNumbers", unfollowed := true, recurses := true, apart := false }
def RunsNumbersSaid : Prop := runsNumbersRow.holds Try.pinned (OpenSpec.ofChange runsNumbersSpec)

/-- ITS FALSE NEIGHBOUR: 'it returns false'. Refute it at one input. -/
def runsNumbersWrong : ChangeSpec := { name := "runsNumbers", fn := fun _ => fun
  | [] => { results := [.lit (.bool false)], args := [] }
  | _ => none }
def RunsNumbersWrongFalsely : Prop := runsNumbersRow.holds Try.pinned (OpenSpec.ofChange runsNumbersWrong)

/-- 'columbariumlaw5.RunsTells': WHATEVER THE INPUT: true; the input reads as it did. -/
def runsTellsSpec : ChangeSpec := { name := "runsTells", fn := fun _ => fun
  | [d1, d2, d3, d4, d5] => { results := [.lit (.bool true)], args := [d1, d2, d3, d4, d5] }
  | _ => none }
def runsTellsRow : OpenClaim := { program := "ytpnnfkefddkjcaa", sum := "d616926e4891ca04c41d9d3f6716a322618bf862cddcf6cc786d3552026e7d8c", func := "columbarium/columbariumlaw5.RunsTells", spec := "runsTells", unfollowed := true, recurses := true, apart := false }
def RunsTellsSaid : Prop := runsTellsRow.holds Try.pinned (OpenSpec.ofChange runsTellsSpec)

/-- ITS FALSE NEIGHBOUR: 'it returns false'. Refute it at one input. -/
def runsTellsWrong : ChangeSpec := { name := "runsTells", fn := fun _ => fun
  | [d1, d2, d3, d4, d5] => { results := [.lit (.bool false)], args := [d1, d2, d3, d4, d5] }
  | _ => none }
def RunsTellsWrongFalsely : Prop := runsTellsRow.holds Try.pinned (OpenSpec.ofChange runsTellsWrong)

/-- 'columbariumlaw5.RunsShapes': WHATEVER THE INPUT: true; the input reads as it did. -/
def runsShapesSpec : ChangeSpec := { name := "runsShapes", fn := fun _ => fun
  | [d1, d2, d3, d4, d5] => { results := [.lit (.bool true)], args := [d1, d2, d3, d4, d5] }
  | _ => none }
def runsShapesRow : OpenClaim := { program := "ytpnnfkefddkjcaa", sum := "d616926e4891ca04c41d9d3f6716a322618bf862cddcf6cc786d3552026e7d8c", func := "columbarium/columbariumlaw5.RunsShapes", spec := "runsShapes", unfollowed := true, recurses := true, apart := false }
def RunsShapesSaid : Prop := runsShapesRow.holds Try.pinned (OpenSpec.ofChange runsShapesSpec)

/-- ITS FALSE NEIGHBOUR: 'it returns false'. Refute it at one input. -/
def runsShapesWrong : ChangeSpec := { name := "runsShapes", fn := fun _ => fun
  | [d1, d2, d3, d4, d5] => { results := [.lit (.bool false)], args := [d1, d2, d3, d4, d5] }
  | _ => none }
def RunsShapesWrongFalsely : Prop := runsShapesRow.holds Try.pinned (OpenSpec.ofChange runsShapesWrong)

/-- 'columbariumlaw5.RunsBack': WHATEVER THE INPUT: true; the input reads as it did. -/
def runsBackSpec : ChangeSpec := { name := "runsBack", fn := fun _ => fun
  | [d1, d2, d3, d4] => { results := [.lit (.bool true)], args := [d1, d2, d3, d4] }
  | _ => none }
def runsBackRow : OpenClaim := { program := "ytpnnfkefddkjcaa", sum := "d616926e4891ca04c41d9d3f6716a322618bf862cddcf6cc786d3552026e7d8c", func := "columbarium/columbariumlaw5.RunsBack", spec := "runsBack", unfollowed := true, recurses := true, apart := false }
def RunsBackSaid : Prop := runsBackRow.holds Try.pinned (OpenSpec.ofChange runsBackSpec)

/-- ITS FALSE NEIGHBOUR: 'it returns false'. Refute it at one input. -/
def runsBackWrong : ChangeSpec := { name := "runsBack", fn := fun _ => fun
  | [d1, d2, d3, d4] => { results := [.lit (.bool false)], args := [d1, d2, d3, d4] }
  | _ => none }
def RunsBackWrongFalsely : Prop := runsBackRow.holds Try.pinned (OpenSpec.ofChange runsBackWrong)

/-- 'columbariumlaw5.RunsLists': WHATEVER THE INPUT: true; the input reads as it did. -/
def runsListsSpec : ChangeSpec := { name := "runsLists", fn := fun _ => fun
  | [d1, d2, d3, d4] => { results := [.lit (.bool true)], args := [d1, d2, d3, d4] }
  | _ => none }
def runsListsRow : OpenClaim := { program := "ytpnnfkefddkjcaa", sum := "d616926e4891ca04c41d9d3f6716a322618bf862cddcf6cc786d3552026e7d8c", func := "columbarium/columbariumlaw5.RunsLists", spec := "runsLists", unfollowed := true, recurses := true, apart := false }
def RunsListsSaid : Prop := runsListsRow.holds Try.pinned (OpenSpec.ofChange runsListsSpec)

/-- ITS FALSE NEIGHBOUR: 'it returns false'. Refute it at one input. -/
def runsListsWrong : ChangeSpec := { name := "runsLists", fn := fun _ => fun
  | [d1, d2, d3, d4] => { results := [.lit (.bool false)], args := [d1, d2, d3, d4] }
  | _ => none }
def RunsListsWrongFalsely : Prop := runsListsRow.holds Try.pinned (OpenSpec.ofChange runsListsWrong)

/- THE SECOND FORM. 'bulk': how many values and letters a reading holds, each counted each time it is reached (what is shared counts as often as it is met; a slice's spare places count too). A statement '..UptoSaid' is the law's where the arguments, and the package variables that the reading takes, are together of bulk at most 1048576: NARROWER than '..Said'. Prove '..Said' where nothing that the law and all that it calls make is longer than what came in: it says more and counts as full. Else prove '..UptoSaid'. A law counts once. -/
mutual
def uptoBulk {H : Type} : DataW H → Nat
  | .lit (.string bytes) => bytes.length + 1
  | .lit _ => 1
  | .nil => 1
  | .ptr d => uptoBulk d + 1
  | .slice elems spare => uptoBulkAll elems + uptoBulkAll spare + 1
  | .agg parts => uptoBulkAll parts + 1
  | .iface _ d => uptoBulk d + 1
  | .map entries => uptoBulkEntries entries + 1
  | .held _ => 1
def uptoBulkAll {H : Type} : List (DataW H) → Nat
  | [] => 0
  | d :: r => uptoBulk d + uptoBulkAll r
def uptoBulkEntries {H : Type} : List (Lit × DataW H) → Nat
  | [] => 0
  | x :: r => uptoBulkEntry x + uptoBulkEntries r
def uptoBulkEntry {H : Type} : Lit × DataW H → Nat
  | (.string bytes, d) => bytes.length + uptoBulk d + 1
  | (_, d) => uptoBulk d + 1
 end
def uptoSmall : (H : Type) → List (DataW H) → Bool := fun _ ds => decide (uptoBulkAll ds ≤ 1048576)
def OpenSpec.upto (s : _root_.Go.ChangeSpec) : _root_.Go.OpenSpec := { _root_.Go.OpenSpec.ofChange s with cond := some uptoSmall }

/-- 'columbariumlaw5.RunsShort', WHERE WHAT IT READS IS OF BULK AT MOST 1048576: true; the input reads as it did. -/
def runsShortUptoRow : OpenClaim := { program := "ytpnnfkefddkjcaa", sum := "d616926e4891ca04c41d9d3f6716a322618bf862cddcf6cc786d3552026e7d8c", func := "columbarium/columbariumlaw5.RunsShort", spec := "runsShort", apart := false, narrowed := true }
def RunsShortUptoSaid : Prop := runsShortUptoRow.holds Try.pinned (OpenSpec.upto runsShortSpec)

/-- 'columbariumlaw5.RunsNumbers', WHERE WHAT IT READS IS OF BULK AT MOST 1048576: true; the input reads as it did. -/
def runsNumbersUptoRow : OpenClaim := { program := "ytpnnfkefddkjcaa", sum := "d616926e4891ca04c41d9d3f6716a322618bf862cddcf6cc786d3552026e7d8c", func := "columbarium/columbariumlaw5.RunsNumbers", spec := "runsNumbers", unfollowed := true, recurses := true, apart := false, narrowed := true }
def RunsNumbersUptoSaid : Prop := runsNumbersUptoRow.holds Try.pinned (OpenSpec.upto runsNumbersSpec)

/-- 'columbariumlaw5.RunsTells', WHERE WHAT IT READS IS OF BULK AT MOST 1048576: true; the input reads as it did. -/
def runsTellsUptoRow : OpenClaim := { program := "ytpnnfkefddkjcaa", sum := "d616926e4891ca04c41d9d3f6716a322618bf862cddcf6cc786d3552026e7d8c", func := "columbarium/columbariumlaw5.RunsTells", spec := "runsTells", unfollowed := true, recurses := true, apart := false, narrowed := true }
def RunsTellsUptoSaid : Prop := runsTellsUptoRow.holds Try.pinned (OpenSpec.upto runsTellsSpec)

/-- 'columbariumlaw5.RunsShapes', WHERE WHAT IT READS IS OF BULK AT MOST 1048576: true; the input reads as it did. -/
def runsShapesUptoRow : OpenClaim := { program := "ytpnnfkefddkjcaa", sum := "d616926e4891ca04c41d9d3f6716a322618bf862cddcf6cc786d3552026e7d8c", func := "columbarium/columbariumlaw5.RunsShapes", spec := "runsShapes", unfollowed := true, recurses := true, apart := false, narrowed := true }
def RunsShapesUptoSaid : Prop := runsShapesUptoRow.holds Try.pinned (OpenSpec.upto runsShapesSpec)

/-- 'columbariumlaw5.RunsBack', WHERE WHAT IT READS IS OF BULK AT MOST 1048576: true; the input reads as it did. -/
def runsBackUptoRow : OpenClaim := { program := "ytpnnfkefddkjcaa", sum := "d616926e4891ca04c41d9d3f6716a322618bf862cddcf6cc786d3552026e7d8c", func := "columbarium/columbariumlaw5.RunsBack", spec := "runsBack", unfollowed := true, recurses := true, apart := false, narrowed := true }
def RunsBackUptoSaid : Prop := runsBackUptoRow.holds Try.pinned (OpenSpec.upto runsBackSpec)

/-- 'columbariumlaw5.RunsLists', WHERE WHAT IT READS IS OF BULK AT MOST 1048576: true; the input reads as it did. -/
def runsListsUptoRow : OpenClaim := { program := "ytpnnfkefddkjcaa", sum := "d616926e4891ca04c41d9d3f6716a322618bf862cddcf6cc786d3552026e7d8c", func := "columbarium/columbariumlaw5.RunsLists", spec := "runsLists", unfollowed := true, recurses := true, apart := false, narrowed := true }
def RunsListsUptoSaid : Prop := runsListsUptoRow.holds Try.pinned (OpenSpec.upto runsListsSpec)

end Rows
end Go.Proofs.Ytpnnfkefddkjcaa

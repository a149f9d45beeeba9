/-
  No cell of these rows narrows 'for every input' (looked for: loops, veiled, ifaces, maps, wideKeys, modest, calm, conditions, laid).
  DERIVED. THE GIVEN ROWS OF THIS SEAT. 5 by the template 'for every input the law returns true; each argument reads behind the call as it read before'; 0 by the template 'total and deterministic' (their statements: YtllboaghcfeepaaTotals.lean).
  GIVEN WITH THE SEED: the statements are not yours to turn. If you find one false, say at which input.
  Laid BY PROGRAM, IN A SANDBOX (cutbox-rows.mjs): the forced cells as the released guide's own fill.sh prints them over the translation 8c1961bd17570239… (all of the seat's roots in one cut). By AI agents, Wed Nov 11 2026. No macro, syntax, notation, axiom, sorry.
-/
import Derived.Test.YtllboaghcfeepaaChecked
import GoSem.Claim
import GoSem.ClaimJoined
import GoSem.ClaimMapViews
import Derived.JoinedTies
import Derived.KernelRfl
namespace Go.Proofs.Ytllboaghcfeepaa
/- THE CELL 'sum', in the pinned program and in every row, IS THE sha256 OF THE DUMP (.gsa) THAT YtllboaghcfeepaaProg.lean LOADS. Nothing in Lean hashes anything: it is a label: what it is worth is what the hold of that sum in a sandbox is worth. -/
noncomputable def Try.pinned : Pinned := { name := "ytllboaghcfeepaa", sum := "8c1961bd1757023929bbcd03cc950938917b5bae534d36ce5346093ee16f90e0", checked := Try.checked }
namespace Rows
def none {H : Type} : Left H := { results := [], args := [] }

/-- 'columbariumlaw7.DictMerges': WHATEVER THE INPUT: true; the input reads as it did. -/
def dictMergesSpec : ChangeSpec := { name := "dictMerges", fn := fun _ => fun
  | [d1, d2, d3] => { results := [.lit (.bool true)], args := [d1, d2, d3] }
  | _ => none }
def dictMergesRow : OpenClaim := { program := "ytllboaghcfeepaa", sum := "8c1961bd1757023929bbcd03cc950938917b5bae534d36ce5346093ee16f90e0", func := "columbarium/columbariumlaw7.DictMerges", spec := "dictMerges", recurses := true, apart := false }
def DictMergesSaid : Prop := dictMergesRow.holds Try.pinned (OpenSpec.ofChange dictMergesSpec)

/-- ITS FALSE NEIGHBOUR: 'it returns false'. Refute it at one input. -/
def dictMergesWrong : ChangeSpec := { name := "dictMerges", fn := fun _ => fun
  | [d1, d2, d3] => { results := [.lit (.bool false)], args := [d1, d2, d3] }
  | _ => none }
def DictMergesWrongFalsely : Prop := dictMergesRow.holds Try.pinned (OpenSpec.ofChange dictMergesWrong)

/-- 'columbariumlaw7.DictRules': WHATEVER THE INPUT: true; the input reads as it did. -/
def dictRulesSpec : ChangeSpec := { name := "dictRules", fn := fun _ => fun
  | [d1, d2, d3] => { results := [.lit (.bool true)], args := [d1, d2, d3] }
  | _ => none }
def dictRulesRow : OpenClaim := { program := "ytllboaghcfeepaa", sum := "8c1961bd1757023929bbcd03cc950938917b5bae534d36ce5346093ee16f90e0", func := "columbarium/columbariumlaw7.DictRules", spec := "dictRules", recurses := true, apart := false }
def DictRulesSaid : Prop := dictRulesRow.holds Try.pinned (OpenSpec.ofChange dictRulesSpec)

/-- ITS FALSE NEIGHBOUR: 'it returns false'. Refute it at one input. -/
def dictRulesWrong : ChangeSpec := { name := "dictRules", fn := fun _ => fun
  | [d1, d2, d3] => { results := [.lit (.bool false)], args := [d1, d2, d3] }
  | _ => none }
def DictRulesWrongFalsely : Prop := dictRulesRow.holds Try.pinned (OpenSpec.ofChange dictRulesWrong)

/-- 'columbariumlaw7.DictFinds': WHATEVER THE INPUT: true; the input reads as it did. -/
def dictFindsSpec : ChangeSpec := { name := "dictFinds", fn := fun _ => fun
  | [d1, d2] => { results := [.lit (.bool true)], args := [d1, d2] }
  | _ => none }
def dictFindsRow : OpenClaim := { program := "ytllboaghcfeepaa", sum := "8c1961bd1757023929bbcd03cc950938917b5bae534d36ce5346093ee16f90e0", func := "columbarium/columbariumlaw7.DictFinds", spec := "dictFinds", unfollowed := true, recurses := true, apart := false }
def DictFindsSaid : Prop := dictFindsRow.holds Try.pinned (OpenSpec.ofChange dictFindsSpec)

/-- ITS FALSE NEIGHBOUR: 'it returns false'. Refute it at one input. -/
def dictFindsWrong : ChangeSpec := { name := "dictFinds", fn := fun _ => fun
  | [d1, d2] => { results := [.lit (.bool false)], args := [d1, d2] }
  | _ => none }
def DictFindsWrongFalsely : Prop := dictFindsRow.holds Try.pinned (OpenSpec.ofChange dictFindsWrong)

/-- 'columbariumlaw7.DictBack': WHATEVER THE INPUT: true; the input reads as it did. -/
def dictBackSpec : ChangeSpec := { name := "dictBack", fn := fun _ => fun
  | [d1, d2, d3, d4] => { results := [.lit (.bool true)], args := [d1, d2, d3, d4] }
  | _ => none }
def dictBackRow : OpenClaim := { program := "ytllboaghcfeepaa", sum := "8c1961bd1757023929bbcd03cc950938917b5bae534d36ce5346093ee16f90e0", func := "columbarium/columbariumlaw7.DictBack", spec := "dictBack", unfollowed := true, recurses := true, apart := false }
def DictBackSaid : Prop := dictBackRow.holds Try.pinned (OpenSpec.ofChange dictBackSpec)

/-- ITS FALSE NEIGHBOUR: 'it returns false'. Refute it at one input. -/
def dictBackWrong : ChangeSpec := { name := "dictBack", fn := fun _ => fun
  | [d1, d2, d3, d4] => { results := [.lit (.bool false)], args := [d1, d2, d3, d4] }
  | _ => none }
def DictBackWrongFalsely : Prop := dictBackRow.holds Try.pinned (OpenSpec.ofChange dictBackWrong)

/-- 'columbariumlaw7.DictTells': WHATEVER THE INPUT: true; the input reads as it did. -/
def dictTellsSpec : ChangeSpec := { name := "dictTells", fn := fun _ => fun
  | [d1, d2, d3, d4, d5] => { results := [.lit (.bool true)], args := [d1, d2, d3, d4, d5] }
  | _ => none }
def dictTellsRow : OpenClaim := { program := "ytllboaghcfeepaa", sum := "8c1961bd1757023929bbcd03cc950938917b5bae534d36ce5346093ee16f90e0", func := "columbarium/columbariumlaw7.DictTells", spec := "dictTells", unfollowed := true, recurses := true, apart := false }
def DictTellsSaid : Prop := dictTellsRow.holds Try.pinned (OpenSpec.ofChange dictTellsSpec)

/-- ITS FALSE NEIGHBOUR: 'it returns false'. Refute it at one input. -/
def dictTellsWrong : ChangeSpec := { name := "dictTells", fn := fun _ => fun
  | [d1, d2, d3, d4, d5] => { results := [.lit (.bool false)], args := [d1, d2, d3, d4, d5] }
  | _ => none }
def DictTellsWrongFalsely : Prop := dictTellsRow.holds Try.pinned (OpenSpec.ofChange dictTellsWrong)

/- THE SECOND FORM. 'bulk': how many values and letters a reading holds, each counted each time it is reached (what is shared counts as often as it is met; a slice's spare places count too). A statement '..UptoSaid' is the law's where the arguments, and the package variables that the reading takes, are together of bulk at most 1048576: NARROWER than '..Said'. Prove '..Said' where nothing that the law and all that it calls make is longer than what came in: it says more and counts as full. Else prove '..UptoSaid'. A law counts once. -/
mutual
def uptoBulk {H : Type} : DataW H → Nat
  | .lit (.string bytes) => bytes.length + 1
  | .lit _ => 1
  | .nil => 1
  | .ptr d => uptoBulk d + 1
  | .slice elems spare => uptoBulkAll elems + uptoBulkAll spare + 1
  | .agg parts => uptoBulkAll parts + 1
  | .iface _ d => uptoBulk d + 1
  | .map entries => uptoBulkEntries entries + 1
  | .held _ => 1
def uptoBulkAll {H : Type} : List (DataW H) → Nat
  | [] => 0
  | d :: r => uptoBulk d + uptoBulkAll r
def uptoBulkEntries {H : Type} : List (Lit × DataW H) → Nat
  | [] => 0
  | x :: r => uptoBulkEntry x + uptoBulkEntries r
def uptoBulkEntry {H : Type} : Lit × DataW H → Nat
  | (.string bytes, d) => bytes.length + uptoBulk d + 1
  | (_, d) => uptoBulk d + 1
 end
def uptoSmall : (H : Type) → List (DataW H) → Bool := fun _ ds => decide (uptoBulkAll ds ≤ 1048576)
def OpenSpec.upto (s : _root_.Go.ChangeSpec) : _root_.Go.OpenSpec := { _root_.Go.OpenSpec.ofChange s with cond := some uptoSmall }

/-- 'columbariumlaw7.DictMerges', WHERE WHAT IT READS IS OF BULK AT MOST 1048576: true; the input reads as it did. -/
def dictMergesUptoRow : OpenClaim := { program := "ytllboaghcfeepaa", sum := "8c1961bd1757023929bbcd03cc950938917b5bae534d36ce5346093ee16f90e0", func := "columbarium/columbariumlaw7.DictMerges", spec := "dictMerges", recurses := true, apart := false, narrowed := true }
def DictMergesUptoSaid : Prop := dictMergesUptoRow.holds Try.pinned (OpenSpec.upto dictMergesSpec)

/-- 'columbariumlaw7.DictRules', WHERE WHAT IT READS IS OF BULK AT MOST 1048576: true; the input reads as it did. -/
def dictRulesUptoRow : OpenClaim := { program := "ytllboaghcfeepaa", sum := "8c1961bd1757023929bbcd03cc950938917b5bae534d36ce5346093ee16f90e0", func := "columbarium/columbariumlaw7.DictRules", spec := "dictRules", recurses := true, apart := false, narrowed := true }
def DictRulesUptoSaid : Prop := dictRulesUptoRow.holds Try.pinned (OpenSpec.upto dictRulesSpec)

/-- 'columbariumlaw7.DictFinds', WHERE WHAT IT READS IS OF BULK AT MOST 1048576: true; the input reads as it did. -/
def dictFindsUptoRow : OpenClaim := { program := "ytllboaghcfeepaa", sum := "8c1961bd1757023929bbcd03cc950938917b5bae534d36ce5346093ee16f90e0", func := "columbarium/columbariumlaw7.DictFinds", spec := "dictFinds", unfollowed := true, recurses := true, apart := false, narrowed := true }
def DictFindsUptoSaid : Prop := dictFindsUptoRow.holds Try.pinned (OpenSpec.upto dictFindsSpec)

/-- 'columbariumlaw7.DictBack', WHERE WHAT IT READS IS OF BULK AT MOST 1048576: true; the input reads as it did. -/
def dictBackUptoRow : OpenClaim := { program := "ytllboaghcfeepaa", sum := "8c1961bd1757023929bbcd03cc950938917b5bae534d36ce5346093ee16f90e0", func := "columbarium/columbariumlaw7.DictBack", spec := "dictBack", unfollowed := true, recurses := true, apart := false, narrowed := true }
def DictBackUptoSaid : Prop := dictBackUptoRow.holds Try.pinned (OpenSpec.upto dictBackSpec)

/-- 'columbariumlaw7.DictTells', WHERE WHAT IT READS IS OF BULK AT MOST 1048576: true; the input reads as it did. -/
def dictTellsUptoRow : OpenClaim := { program := "ytllboaghcfeepaa", sum := "8c1961bd1757023929bbcd03cc950938917b5bae534d36ce5346093ee16f90e0", func := "columbarium/columbariumlaw7.DictTells", spec := "dictTells", unfollowed := true, recurses := true, apart := false, narrowed := true }
def DictTellsUptoSaid : Prop := dictTellsUptoRow.holds Try.pinned (OpenSpec.upto dictTellsSpec)

end Rows
end Go.Proofs.Ytllboaghcfeepaa

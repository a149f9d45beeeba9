/-
  NARROWER THAN 'FOR EVERY INPUT', by the rows' own cells (each row's printed sentence says how): PredNormal: loops · PredPairs: loops · PredRules: loops.
  DERIVED. THE GIVEN ROWS OF THIS SEAT. 4 by the template 'for every input the law returns true; each argument reads behind the call as it read before'; 0 by the template 'total and deterministic' (their statements: YtalpcnomfebdiaaTotals.lean).
  GIVEN WITH THE SEED: the statements are not yours to turn. If you find one false, say at which input.
  Laid BY PROGRAM, IN A SANDBOX (cutbox-rows.mjs): the forced cells as the released guide's own fill.sh prints them over the translation c062ccee0510b8e4… (all of the seat's roots in one cut). By AI agents, Wed Nov 11 2026. No macro, syntax, notation, axiom, sorry.
-/
import Derived.Test.YtalpcnomfebdiaaChecked
import GoSem.Claim
import GoSem.ClaimJoined
import GoSem.ClaimMapViews
import Derived.JoinedTies
import Derived.KernelRfl
namespace Go.Proofs.Ytalpcnomfebdiaa
/- THE CELL 'sum', in the pinned program and in every row, IS THE sha256 OF THE DUMP (.gsa) THAT YtalpcnomfebdiaaProg.lean LOADS. Nothing in Lean hashes anything: it is a label: what it is worth is what the hold of that sum in a sandbox is worth. -/
noncomputable def Try.pinned : Pinned := { name := "ytalpcnomfebdiaa", sum := "c062ccee0510b8e485ca75dd6a5850817eb750a75a9eda488f13bdea3609a2b4", checked := Try.checked }
namespace Rows
def none {H : Type} : Left H := { results := [], args := [] }

/-- 'columbariumlaw13.PredNormal': WHATEVER THE INPUT: true; the input reads as it did. -/
def predNormalSpec : ChangeSpec := { name := "predNormal", fn := fun _ => fun
  | [d1, d2] => { results := [.lit (.bool true)], args := [d1, d2] }
  | _ => none }
def predNormalRow : OpenClaim := { program := "ytalpcnomfebdiaa", sum := "c062ccee0510b8e485ca75dd6a5850817eb750a75a9eda488f13bdea3609a2b4", func := "columbarium/columbariumlaw13.PredNormal", spec := "predNormal", unfollowed := true, recurses := true, loops := true, apart := false }
def PredNormalSaid : Prop := predNormalRow.holds Try.pinned (OpenSpec.ofChange predNormalSpec)

/-- ITS FALSE NEIGHBOUR: 'it returns false'. Refute it at one input. -/
def predNormalWrong : ChangeSpec := { name := "predNormal", fn := fun _ => fun
  | [d1, d2] => { results := [.lit (.bool false)], args := [d1, d2] }
  | _ => none }
def PredNormalWrongFalsely : Prop := predNormalRow.holds Try.pinned (OpenSpec.ofChange predNormalWrong)

/-- 'columbariumlaw13.PredPairs': WHATEVER THE INPUT: true; the input reads as it did. -/
def predPairsSpec : ChangeSpec := { name := "predPairs", fn := fun _ => fun
  | [d1, d2, d3, d4, d5] => { results := [.lit (.bool true)], args := [d1, d2, d3, d4, d5] }
  | _ => none }
def predPairsRow : OpenClaim := { program := "ytalpcnomfebdiaa", sum := "c062ccee0510b8e485ca75dd6a5850817eb750a75a9eda488f13bdea3609a2b4", func := "columbarium/columbariumlaw13.PredPairs", spec := "predPairs", unfollowed := true, recurses := true, loops := true, apart := false }
def PredPairsSaid : Prop := predPairsRow.holds Try.pinned (OpenSpec.ofChange predPairsSpec)

/-- ITS FALSE NEIGHBOUR: 'it returns false'. Refute it at one input. -/
def predPairsWrong : ChangeSpec := { name := "predPairs", fn := fun _ => fun
  | [d1, d2, d3, d4, d5] => { results := [.lit (.bool false)], args := [d1, d2, d3, d4, d5] }
  | _ => none }
def PredPairsWrongFalsely : Prop := predPairsRow.holds Try.pinned (OpenSpec.ofChange predPairsWrong)

/-- 'columbariumlaw13.PredLimits': WHATEVER THE INPUT: true; the input reads as it did. -/
def predLimitsSpec : ChangeSpec := { name := "predLimits", fn := fun _ => fun
  | [d1, d2] => { results := [.lit (.bool true)], args := [d1, d2] }
  | _ => none }
def predLimitsRow : OpenClaim := { program := "ytalpcnomfebdiaa", sum := "c062ccee0510b8e485ca75dd6a5850817eb750a75a9eda488f13bdea3609a2b4", func := "columbarium/columbariumlaw13.PredLimits", spec := "predLimits", unfollowed := true, recurses := true, apart := false }
def PredLimitsSaid : Prop := predLimitsRow.holds Try.pinned (OpenSpec.ofChange predLimitsSpec)

/-- ITS FALSE NEIGHBOUR: 'it returns false'. Refute it at one input. -/
def predLimitsWrong : ChangeSpec := { name := "predLimits", fn := fun _ => fun
  | [d1, d2] => { results := [.lit (.bool false)], args := [d1, d2] }
  | _ => none }
def PredLimitsWrongFalsely : Prop := predLimitsRow.holds Try.pinned (OpenSpec.ofChange predLimitsWrong)

/-- 'columbariumlaw13.PredRules': WHATEVER THE INPUT: true; the input reads as it did. -/
def predRulesSpec : ChangeSpec := { name := "predRules", fn := fun _ => fun
  | [d1, d2, d3, d4] => { results := [.lit (.bool true)], args := [d1, d2, d3, d4] }
  | _ => none }
def predRulesRow : OpenClaim := { program := "ytalpcnomfebdiaa", sum := "c062ccee0510b8e485ca75dd6a5850817eb750a75a9eda488f13bdea3609a2b4", func := "columbarium/columbariumlaw13.PredRules", spec := "predRules", unfollowed := true, recurses := true, loops := true, apart := false }
def PredRulesSaid : Prop := predRulesRow.holds Try.pinned (OpenSpec.ofChange predRulesSpec)

/-- ITS FALSE NEIGHBOUR: 'it returns false'. Refute it at one input. -/
def predRulesWrong : ChangeSpec := { name := "predRules", fn := fun _ => fun
  | [d1, d2, d3, d4] => { results := [.lit (.bool false)], args := [d1, d2, d3, d4] }
  | _ => none }
def PredRulesWrongFalsely : Prop := predRulesRow.holds Try.pinned (OpenSpec.ofChange predRulesWrong)

/- THE SECOND FORM. 'bulk': how many values and letters a reading holds, each counted each time it is reached (what is shared counts as often as it is met; a slice's spare places count too). A statement '..UptoSaid' is the law's where the arguments, and the package variables that the reading takes, are together of bulk at most 1048576: NARROWER than '..Said'. Prove '..Said' where nothing that the law and all that it calls make is longer than what came in: it says more and counts as full. Else prove '..UptoSaid'. A law counts once. -/
mutual
def uptoBulk {H : Type} : DataW H → Nat
  | .lit (.string bytes) => bytes.length + 1
  | .lit _ => 1
  | .nil => 1
  | .ptr d => uptoBulk d + 1
  | .slice elems spare => uptoBulkAll elems + uptoBulkAll spare + 1
  | .agg parts => uptoBulkAll parts + 1
  | .iface _ d => uptoBulk d + 1
  | .map entries => uptoBulkEntries entries + 1
  | .held _ => 1
def uptoBulkAll {H : Type} : List (DataW H) → Nat
  | [] => 0
  | d :: r => uptoBulk d + uptoBulkAll r
def uptoBulkEntries {H : Type} : List (Lit × DataW H) → Nat
  | [] => 0
  | x :: r => uptoBulkEntry x + uptoBulkEntries r
def uptoBulkEntry {H : Type} : Lit × DataW H → Nat
  | (.string bytes, d) => bytes.length + uptoBulk d + 1
  | (_, d) => uptoBulk d + 1
 end
def uptoSmall : (H : Type) → List (DataW H) → Bool := fun _ ds => decide (uptoBulkAll ds ≤ 1048576)
def OpenSpec.upto (s : _root_.Go.ChangeSpec) : _root_.Go.OpenSpec := { _root_.Go.OpenSpec.ofChange s with cond := some uptoSmall }

/-- 'columbariumlaw13.PredNormal', WHERE WHAT IT READS IS OF BULK AT MOST 1048576: true; the input reads as it did. -/
def predNormalUptoRow : OpenClaim := { program := "ytalpcnomfebdiaa", sum := "c062ccee0510b8e485ca75dd6a5850817eb750a75a9eda488f13bdea3609a2b4", func := "columbarium/columbariumlaw13.PredNormal", spec := "predNormal", unfollowed := true, recurses := true, loops := true, apart := false, narrowed := true }
def PredNormalUptoSaid : Prop := predNormalUptoRow.holds Try.pinned (OpenSpec.upto predNormalSpec)

/-- 'columbariumlaw13.PredPairs', WHERE WHAT IT READS IS OF BULK AT MOST 1048576: true; the input reads as it did. -/
def predPairsUptoRow : OpenClaim := { program := "ytalpcnomfebdiaa", sum := "c062ccee0510b8e485ca75dd6a5850817eb750a75a9eda488f13bdea3609a2b4", func := "columbarium/columbariumlaw13.PredPairs", spec := "predPairs", unfollowed := true, recurses := true, loops := true, apart := false, narrowed := true }
def PredPairsUptoSaid : Prop := predPairsUptoRow.holds Try.pinned (OpenSpec.upto predPairsSpec)

/-- 'columbariumlaw13.PredLimits', WHERE WHAT IT READS IS OF BULK AT MOST 1048576: true; the input reads as it did. -/
def predLimitsUptoRow : OpenClaim := { program := "ytalpcnomfebdiaa", sum := "c062ccee0510b8e485ca75dd6a5850817eb750a75a9eda488f13bdea3609a2b4", func := "columbarium/columbariumlaw13.PredLimits", spec := "predLimits", unfollowed := true, recurses := true, apart := false, narrowed := true }
def PredLimitsUptoSaid : Prop := predLimitsUptoRow.holds Try.pinned (OpenSpec.upto predLimitsSpec)

/-- 'columbariumlaw13.PredRules', WHERE WHAT IT READS IS OF BULK AT MOST 1048576: true; the input reads as it did. -/
def predRulesUptoRow : OpenClaim := { program := "ytalpcnomfebdiaa", sum := "c062ccee0510b8e485ca75dd6a5850817eb750a75a9eda488f13bdea3609a2b4", func := "columbarium/columbariumlaw13.PredRules", spec := "predRules", unfollowed := true, recurses := true, loops := true, apart := false, narrowed := true }
def PredRulesUptoSaid : Prop := predRulesUptoRow.holds Try.pinned (OpenSpec.upto predRulesSpec)

end Rows
end Go.Proofs.Ytalpcnomfebdiaa

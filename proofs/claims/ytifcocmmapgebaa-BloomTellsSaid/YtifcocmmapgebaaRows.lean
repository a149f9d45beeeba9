/-
  No cell of these rows narrows 'for every input' (looked for: loops, veiled, ifaces, maps, wideKeys, modest, calm, conditions, laid).
  DERIVED. THE GIVEN ROWS OF THIS SEAT. 6 by the template 'for every input the law returns true; each argument reads behind the call as it read before'; 0 by the template 'total and deterministic' (their statements: YtifcocmmapgebaaTotals.lean).
  GIVEN WITH THE SEED: the statements are not yours to turn. If you find one false, say at which input.
  Laid BY PROGRAM, IN A SANDBOX (cutbox-rows.mjs): the forced cells as the released guide's own fill.sh prints them over the translation 9d080901a673baf9… (all of the seat's roots in one cut). By AI agents, Wed Nov 11 2026. No macro, syntax, notation, axiom, sorry.
-/
import Derived.Test.YtifcocmmapgebaaChecked
import GoSem.Claim
import GoSem.ClaimJoined
import GoSem.ClaimMapViews
import Derived.JoinedTies
import Derived.KernelRfl
namespace Go.Proofs.Ytifcocmmapgebaa
/- THE CELL 'sum', in the pinned program and in every row, IS THE sha256 OF THE DUMP (.gsa) THAT YtifcocmmapgebaaProg.lean LOADS. Nothing in Lean hashes anything: it is a label: what it is worth is what the hold of that sum in a sandbox is worth. -/
noncomputable def Try.pinned : Pinned := { name := "ytifcocmmapgebaa", sum := "9d080901a673baf93d5e55597cf75061936c0e175a15d52b48c07ed88600ba40", checked := Try.checked }
namespace Rows
def none {H : Type} : Left H := { results := [], args := [] }

/-- 'columbariumlaw9.BloomMay': WHATEVER THE INPUT: true; the input reads as it did. -/
def bloomMaySpec : ChangeSpec := { name := "bloomMay", fn := fun _ => fun
  | [d1, d2] => { results := [.lit (.bool true)], args := [d1, d2] }
  | _ => none }
def bloomMayRow : OpenClaim := { program := "ytifcocmmapgebaa", sum := "9d080901a673baf93d5e55597cf75061936c0e175a15d52b48c07ed88600ba40", func := "columbarium/columbariumlaw9.BloomMay", spec := "bloomMay", unfollowed := true, recurses := true, apart := false }
def BloomMaySaid : Prop := bloomMayRow.holds Try.pinned (OpenSpec.ofChange bloomMaySpec)

/-- ITS FALSE NEIGHBOUR: 'it returns false'. Refute it at one input. -/
def bloomMayWrong : ChangeSpec := { name := "bloomMay", fn := fun _ => fun
  | [d1, d2] => { results := [.lit (.bool false)], args := [d1, d2] }
  | _ => none }
def BloomMayWrongFalsely : Prop := bloomMayRow.holds Try.pinned (OpenSpec.ofChange bloomMayWrong)

/-- 'columbariumlaw9.BloomMore': WHATEVER THE INPUT: true; the input reads as it did. -/
def bloomMoreSpec : ChangeSpec := { name := "bloomMore", fn := fun _ => fun
  | [d1, d2, d3] => { results := [.lit (.bool true)], args := [d1, d2, d3] }
  | _ => none }
def bloomMoreRow : OpenClaim := { program := "ytifcocmmapgebaa", sum := "9d080901a673baf93d5e55597cf75061936c0e175a15d52b48c07ed88600ba40", func := "columbarium/columbariumlaw9.BloomMore", spec := "bloomMore", unfollowed := true, recurses := true, apart := false }
def BloomMoreSaid : Prop := bloomMoreRow.holds Try.pinned (OpenSpec.ofChange bloomMoreSpec)

/-- ITS FALSE NEIGHBOUR: 'it returns false'. Refute it at one input. -/
def bloomMoreWrong : ChangeSpec := { name := "bloomMore", fn := fun _ => fun
  | [d1, d2, d3] => { results := [.lit (.bool false)], args := [d1, d2, d3] }
  | _ => none }
def BloomMoreWrongFalsely : Prop := bloomMoreRow.holds Try.pinned (OpenSpec.ofChange bloomMoreWrong)

/-- 'columbariumlaw9.BloomBits': WHATEVER THE INPUT: true; the input reads as it did. -/
def bloomBitsSpec : ChangeSpec := { name := "bloomBits", fn := fun _ => fun
  | [d1, d2] => { results := [.lit (.bool true)], args := [d1, d2] }
  | _ => none }
def bloomBitsRow : OpenClaim := { program := "ytifcocmmapgebaa", sum := "9d080901a673baf93d5e55597cf75061936c0e175a15d52b48c07ed88600ba40", func := "columbarium/columbariumlaw9.BloomBits", spec := "bloomBits", unfollowed := true, recurses := true, apart := false }
def BloomBitsSaid : Prop := bloomBitsRow.holds Try.pinned (OpenSpec.ofChange bloomBitsSpec)

/-- ITS FALSE NEIGHBOUR: 'it returns false'. Refute it at one input. -/
def bloomBitsWrong : ChangeSpec := { name := "bloomBits", fn := fun _ => fun
  | [d1, d2] => { results := [.lit (.bool false)], args := [d1, d2] }
  | _ => none }
def BloomBitsWrongFalsely : Prop := bloomBitsRow.holds Try.pinned (OpenSpec.ofChange bloomBitsWrong)

/-- 'columbariumlaw9.BloomNumbers': WHATEVER THE INPUT: true; the input reads as it did. -/
def bloomNumbersSpec : ChangeSpec := { name := "bloomNumbers", fn := fun _ => fun
  | [] => { results := [.lit (.bool true)], args := [] }
  | _ => none }
def bloomNumbersRow : OpenClaim := { program := "ytifcocmmapgebaa", sum := "9d080901a673baf93d5e55597cf75061936c0e175a15d52b48c07ed88600ba40", func := "columbarium/columbariumlaw9.BloomNumbers", spec := "bloomNumbers", unfollowed := true, recurses := true, apart := false }
def BloomNumbersSaid : Prop := bloomNumbersRow.holds Try.pinned (OpenSpec.ofChange bloomNumbersSpec)

/-- ITS FALSE NEIGHBOUR: 'it returns false'. Refute it at one input. -/
def bloomNumbersWrong : ChangeSpec := { name := "bloomNumbers", fn := fun _ => fun
  | [] => { results := [.lit (.bool false)], args := [] }
  | _ => none }
def BloomNumbersWrongFalsely : Prop := bloomNumbersRow.holds Try.pinned (OpenSpec.ofChange bloomNumbersWrong)

/-- 'columbariumlaw9.BloomTells': WHATEVER THE INPUT: true; the input reads as it did. -/
def bloomTellsSpec : ChangeSpec := { name := "bloomTells", fn := fun _ => fun
  | [d1, d2, d3, d4, d5] => { results := [.lit (.bool true)], args := [d1, d2, d3, d4, d5] }
  | _ => none }
def bloomTellsRow : OpenClaim := { program := "ytifcocmmapgebaa", sum := "9d080901a673baf93d5e55597cf75061936c0e175a15d52b48c07ed88600ba40", func := "columbarium/columbariumlaw9.BloomTells", spec := "bloomTells", unfollowed := true, recurses := true, apart := false }
def BloomTellsSaid : Prop := bloomTellsRow.holds Try.pinned (OpenSpec.ofChange bloomTellsSpec)

/-- ITS FALSE NEIGHBOUR: 'it returns false'. Refute it at one input. -/
def bloomTellsWrong : ChangeSpec := { name := "bloomTells", fn := fun _ => fun
  | [d1, d2, d3, d4, d5] => { results := [.lit (.bool false)], args := [d1, d2, d3, d4, d5] }
  | _ => none }
def BloomTellsWrongFalsely : Prop := bloomTellsRow.holds Try.pinned (OpenSpec.ofChange bloomTellsWrong)

/-- 'columbariumlaw9.BloomBack': WHATEVER THE INPUT: true; the input reads as it did. -/
def bloomBackSpec : ChangeSpec := { name := "bloomBack", fn := fun _ => fun
  | [d1, d2, d3] => { results := [.lit (.bool true)], args := [d1, d2, d3] }
  | _ => none }
def bloomBackRow : OpenClaim := { program := "ytifcocmmapgebaa", sum := "9d080901a673baf93d5e55597cf75061936c0e175a15d52b48c07ed88600ba40", func := "columbarium/columbariumlaw9.BloomBack", spec := "bloomBack", unfollowed := true, recurses := true, apart := false }
def BloomBackSaid : Prop := bloomBackRow.holds Try.pinned (OpenSpec.ofChange bloomBackSpec)

/-- ITS FALSE NEIGHBOUR: 'it returns false'. Refute it at one input. -/
def bloomBackWrong : ChangeSpec := { name := "bloomBack", fn := fun _ => fun
  | [d1, d2, d3] => { results := [.lit (.bool false)], args := [d1, d2, d3] }
  | _ => none }
def BloomBackWrongFalsely : Prop := bloomBackRow.holds Try.pinned (OpenSpec.ofChange bloomBackWrong)

/- THE SECOND FORM. 'bulk': how many values and letters a reading holds, each counted each time it is reached (what is shared counts as often as it is met; a slice's spare places count too). A statement '..UptoSaid' is the law's where the arguments, and the package variables that the reading takes, are together of bulk at most 1048576: NARROWER than '..Said'. Prove '..Said' where nothing that the law and all that it calls make is longer than what came in: it says more and counts as full. Else prove '..UptoSaid'. A law counts once. -/
mutual
def uptoBulk {H : Type} : DataW H → Nat
  | .lit (.string bytes) => bytes.length + 1
  | .lit _ => 1
  | .nil => 1
  | .ptr d => uptoBulk d + 1
  | .slice elems spare => uptoBulkAll elems + uptoBulkAll spare + 1
  | .agg parts => uptoBulkAll parts + 1
  | .iface _ d => uptoBulk d + 1
  | .map entries => uptoBulkEntries entries + 1
  | .held _ => 1
def uptoBulkAll {H : Type} : List (DataW H) → Nat
  | [] => 0
  | d :: r => uptoBulk d + uptoBulkAll r
def uptoBulkEntries {H : Type} : List (Lit × DataW H) → Nat
  | [] => 0
  | x :: r => uptoBulkEntry x + uptoBulkEntries r
def uptoBulkEntry {H : Type} : Lit × DataW H → Nat
  | (.string bytes, d) => bytes.length + uptoBulk d + 1
  | (_, d) => uptoBulk d + 1
 end
def uptoSmall : (H : Type) → List (DataW H) → Bool := fun _ ds => decide (uptoBulkAll ds ≤ 1048576)
def OpenSpec.upto (s : _root_.Go.ChangeSpec) : _root_.Go.OpenSpec := { _root_.Go.OpenSpec.ofChange s with cond := some uptoSmall }

/-- 'columbariumlaw9.BloomMay', WHERE WHAT IT READS IS OF BULK AT MOST 1048576: true; the input reads as it did. -/
def bloomMayUptoRow : OpenClaim := { program := "ytifcocmmapgebaa", sum := "9d080901a673baf93d5e55597cf75061936c0e175a15d52b48c07ed88600ba40", func := "columbarium/columbariumlaw9.BloomMay", spec := "bloomMay", unfollowed := true, recurses := true, apart := false, narrowed := true }
def BloomMayUptoSaid : Prop := bloomMayUptoRow.holds Try.pinned (OpenSpec.upto bloomMaySpec)

/-- 'columbariumlaw9.BloomMore', WHERE WHAT IT READS IS OF BULK AT MOST 1048576: true; the input reads as it did. -/
def bloomMoreUptoRow : OpenClaim := { program := "ytifcocmmapgebaa", sum := "9d080901a673baf93d5e55597cf75061936c0e175a15d52b48c07ed88600ba40", func := "columbarium/columbariumlaw9.BloomMore", spec := "bloomMore", unfollowed := true, recurses := true, apart := false, narrowed := true }
def BloomMoreUptoSaid : Prop := bloomMoreUptoRow.holds Try.pinned (OpenSpec.upto bloomMoreSpec)

/-- 'columbariumlaw9.BloomBits', WHERE WHAT IT READS IS OF BULK AT MOST 1048576: true; the input reads as it did. -/
def bloomBitsUptoRow : OpenClaim := { program := "ytifcocmmapgebaa", sum := "9d080901a673baf93d5e55597cf75061936c0e175a15d52b48c07ed88600ba40", func := "columbarium/columbariumlaw9.BloomBits", spec := "bloomBits", unfollowed := true, recurses := true, apart := false, narrowed := true }
def BloomBitsUptoSaid : Prop := bloomBitsUptoRow.holds Try.pinned (OpenSpec.upto bloomBitsSpec)

/-- 'columbariumlaw9.BloomNumbers', WHERE WHAT IT READS IS OF BULK AT MOST 1048576: true; the input reads as it did. -/
def bloomNumbersUptoRow : OpenClaim := { program := "ytifcocmmapgebaa", sum := "9d080901a673baf93d5e55597cf75061936c0e175a15d52b48c07ed88600ba40", func := "columbarium/columbariumlaw9.BloomNumbers", spec := "bloomNumbers", unfollowed := true, recurses := true, apart := false, narrowed := true }
def BloomNumbersUptoSaid : Prop := bloomNumbersUptoRow.holds Try.pinned (OpenSpec.upto bloomNumbersSpec)

/-- 'columbariumlaw9.BloomTells', WHERE WHAT IT READS IS OF BULK AT MOST 1048576: true; the input reads as it did. -/
def bloomTellsUptoRow : OpenClaim := { program := "ytifcocmmapgebaa", sum := "9d080901a673baf93d5e55597cf75061936c0e175a15d52b48c07ed88600ba40", func := "columbarium/columbariumlaw9.BloomTells", spec := "bloomTells", unfollowed := true, recurses := true, apart := false, narrowed := true }
def BloomTellsUptoSaid : Prop := bloomTellsUptoRow.holds Try.pinned (OpenSpec.upto bloomTellsSpec)

/-- 'columbariumlaw9.BloomBack', WHERE WHAT IT READS IS OF BULK AT MOST 1048576: true; the input reads as it did. -/
def bloomBackUptoRow : OpenClaim := { program := "ytifcocmmapgebaa", sum := "9d080901a673baf93d5e55597cf75061936c0e175a15d52b48c07ed88600ba40", func := "columbarium/columbariumlaw9.BloomBack", spec := "bloomBack", unfollowed := true, recurses := true, apart := false, narrowed := true }
def BloomBackUptoSaid : Prop := bloomBackUptoRow.holds Try.pinned (OpenSpec.upto bloomBackSpec)

end Rows
end Go.Proofs.Ytifcocmmapgebaa

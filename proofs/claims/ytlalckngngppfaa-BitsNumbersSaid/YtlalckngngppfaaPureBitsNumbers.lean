/- A closed sentence: chapter 3's runs, and one for each refusal. -/
import Derived.Test.YtlalckngngppfaaQBitsNumbersx2
namespace Go.Proofs.Ytlalckngngppfaa.Pure
open Go.RowKit Go.Proofs.Ytlalckngngppfaa.QBitsNumbers Go.Proofs.YtlalckngngppfaaW.PrintWords Go.Proofs.YtlalckngngppfaaW.PrintLast

theorem BitsNumbers : columbariumlaw3_BitsNumbers.Pure := ⟨300, by decide +kernel⟩

end Go.Proofs.Ytlalckngngppfaa.Pure

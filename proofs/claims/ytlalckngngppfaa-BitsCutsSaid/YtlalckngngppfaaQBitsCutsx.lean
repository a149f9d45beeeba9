-- Written by a program of this session (wip/myprint.py): the machine's side of a law
import Derived.Test.YtlalckngngppfaaQBitsCutsx0
import Derived.Test.YtlalckngngppfaaQBitsCutsx1
import Derived.Test.YtlalckngngppfaaQBitsCutsx2
import Derived.Test.YtlalckngngppfaaQBitsCutsx3
namespace Go.Proofs.Ytlalckngngppfaa.QBitsCuts
open Go.RowKit Go.Proofs.YtlalckngngppfaaW.PrintWords Go.Proofs.YtlalckngngppfaaW.PrintLast Go.Proofs.YtlalckngngppfaaW.PrintMore
attribute [local go_sem] max2_int min2_int max_two min_two max_three min_three max_four min_four   -- for this text's walks alone
set_option linter.unusedVariables false
set_option linter.unusedSimpArgs false

end Go.Proofs.Ytlalckngngppfaa.QBitsCuts

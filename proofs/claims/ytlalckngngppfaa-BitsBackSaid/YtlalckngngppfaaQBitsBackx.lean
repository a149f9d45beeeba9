-- Written by a program of this session (wip/myprint.py): the machine's side of a law
import Derived.Test.YtlalckngngppfaaQBitsBackx0
import Derived.Test.YtlalckngngppfaaQBitsBackx1
import Derived.Test.YtlalckngngppfaaQBitsBackx2
import Derived.Test.YtlalckngngppfaaQBitsBackx3
namespace Go.Proofs.Ytlalckngngppfaa.QBitsBack
open Go.RowKit Go.Proofs.YtlalckngngppfaaW.PrintWords Go.Proofs.YtlalckngngppfaaW.PrintLast Go.Proofs.YtlalckngngppfaaW.PrintMore
attribute [local go_sem] max2_int min2_int max_two min_two max_three min_three max_four min_four   -- for this text's walks alone
set_option linter.unusedVariables false
set_option linter.unusedSimpArgs false

end Go.Proofs.Ytlalckngngppfaa.QBitsBack

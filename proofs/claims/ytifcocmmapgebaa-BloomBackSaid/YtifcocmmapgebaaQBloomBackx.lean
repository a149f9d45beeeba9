-- Written by a program of this session (wip/myprint.py): the machine's side of a law
import Derived.Test.YtifcocmmapgebaaQBloomBackx0
import Derived.Test.YtifcocmmapgebaaQBloomBackx1
import Derived.Test.YtifcocmmapgebaaQBloomBackx2
import Derived.Test.YtifcocmmapgebaaQBloomBackx3
import Derived.Test.YtifcocmmapgebaaQBloomBackx4
import Derived.Test.YtifcocmmapgebaaQBloomBackx5
namespace Go.Proofs.Ytifcocmmapgebaa.QBloomBack
open Go.RowKit Go.Proofs.YtifcocmmapgebaaW.PrintWords Go.Proofs.YtifcocmmapgebaaW.PrintLast Go.Proofs.YtifcocmmapgebaaW.PrintMore
attribute [local go_sem] max2_int min2_int max_two min_two max_three min_three max_four min_four   -- for this text's walks alone
set_option linter.unusedVariables false
set_option linter.unusedSimpArgs false

end Go.Proofs.Ytifcocmmapgebaa.QBloomBack

-- Written by a program of this session (wip/myprint.py): the machine's side of a law
import Derived.Test.YtifcocmmapgebaaQBloomTellsx0
import Derived.Test.YtifcocmmapgebaaQBloomTellsx1
import Derived.Test.YtifcocmmapgebaaQBloomTellsx2
import Derived.Test.YtifcocmmapgebaaQBloomTellsx3
import Derived.Test.YtifcocmmapgebaaQBloomTellsx4
import Derived.Test.YtifcocmmapgebaaQBloomTellsx5
import Derived.Test.YtifcocmmapgebaaQBloomTellsx6
import Derived.Test.YtifcocmmapgebaaQBloomTellsx7
import Derived.Test.YtifcocmmapgebaaQBloomTellsx8
import Derived.Test.YtifcocmmapgebaaQBloomTellsx9
namespace Go.Proofs.Ytifcocmmapgebaa.QBloomTells
open Go.RowKit Go.Proofs.YtifcocmmapgebaaW.PrintWords Go.Proofs.YtifcocmmapgebaaW.PrintLast Go.Proofs.YtifcocmmapgebaaW.PrintMore
attribute [local go_sem] max2_int min2_int max_two min_two max_three min_three max_four min_four   -- for this text's walks alone
set_option linter.unusedVariables false
set_option linter.unusedSimpArgs false

end Go.Proofs.Ytifcocmmapgebaa.QBloomTells

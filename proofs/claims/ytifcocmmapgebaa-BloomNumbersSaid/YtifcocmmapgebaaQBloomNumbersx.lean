-- Written by a program of this session (wip/myprint.py): the machine's side of a law
import Derived.Test.YtifcocmmapgebaaQBloomNumbersx0
import Derived.Test.YtifcocmmapgebaaQBloomNumbersx1
import Derived.Test.YtifcocmmapgebaaQBloomNumbersx2
import Derived.Test.YtifcocmmapgebaaQBloomNumbersx3
import Derived.Test.YtifcocmmapgebaaQBloomNumbersx4
import Derived.Test.YtifcocmmapgebaaQBloomNumbersx5
import Derived.Test.YtifcocmmapgebaaQBloomNumbersx6
import Derived.Test.YtifcocmmapgebaaQBloomNumbersx7
import Derived.Test.YtifcocmmapgebaaQBloomNumbersx8
import Derived.Test.YtifcocmmapgebaaQBloomNumbersx9
namespace Go.Proofs.Ytifcocmmapgebaa.QBloomNumbers
open Go.RowKit Go.Proofs.YtifcocmmapgebaaW.PrintWords Go.Proofs.YtifcocmmapgebaaW.PrintLast Go.Proofs.YtifcocmmapgebaaW.PrintMore
attribute [local go_sem] max2_int min2_int max_two min_two max_three min_three max_four min_four   -- for this text's walks alone
set_option linter.unusedVariables false
set_option linter.unusedSimpArgs false

end Go.Proofs.Ytifcocmmapgebaa.QBloomNumbers

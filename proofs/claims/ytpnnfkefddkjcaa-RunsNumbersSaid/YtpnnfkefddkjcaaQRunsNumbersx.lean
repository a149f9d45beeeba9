-- Written by a program of this session (wip/myprint.py): the machine's side of a law
import Derived.Test.YtpnnfkefddkjcaaQRunsNumbersx0
import Derived.Test.YtpnnfkefddkjcaaQRunsNumbersx1
import Derived.Test.YtpnnfkefddkjcaaQRunsNumbersx2
import Derived.Test.YtpnnfkefddkjcaaQRunsNumbersx3
import Derived.Test.YtpnnfkefddkjcaaQRunsNumbersx4
import Derived.Test.YtpnnfkefddkjcaaQRunsNumbersx5
import Derived.Test.YtpnnfkefddkjcaaQRunsNumbersx6
import Derived.Test.YtpnnfkefddkjcaaQRunsNumbersx7
import Derived.Test.YtpnnfkefddkjcaaQRunsNumbersx8
import Derived.Test.YtpnnfkefddkjcaaQRunsNumbersx9
import Derived.Test.YtpnnfkefddkjcaaQRunsNumbersx10
import Derived.Test.YtpnnfkefddkjcaaQRunsNumbersx11
import Derived.Test.YtpnnfkefddkjcaaQRunsNumbersx12
namespace Go.Proofs.Ytpnnfkefddkjcaa.QRunsNumbers
open Go.RowKit Go.Proofs.YtpnnfkefddkjcaaW.PrintWords Go.Proofs.YtpnnfkefddkjcaaW.PrintLast Go.Proofs.YtpnnfkefddkjcaaW.PrintMore
attribute [local go_sem] max2_int min2_int max_two min_two max_three min_three max_four min_four   -- for this text's walks alone
set_option linter.unusedVariables false
set_option linter.unusedSimpArgs false

end Go.Proofs.Ytpnnfkefddkjcaa.QRunsNumbers

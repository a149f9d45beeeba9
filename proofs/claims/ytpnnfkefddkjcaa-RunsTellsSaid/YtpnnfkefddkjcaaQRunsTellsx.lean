-- Written by a program of this session (wip/myprint.py): the machine's side of a law
import Derived.Test.YtpnnfkefddkjcaaQRunsTellsx0
import Derived.Test.YtpnnfkefddkjcaaQRunsTellsx1
import Derived.Test.YtpnnfkefddkjcaaQRunsTellsx2
import Derived.Test.YtpnnfkefddkjcaaQRunsTellsx3
import Derived.Test.YtpnnfkefddkjcaaQRunsTellsx4
import Derived.Test.YtpnnfkefddkjcaaQRunsTellsx5
import Derived.Test.YtpnnfkefddkjcaaQRunsTellsx6
import Derived.Test.YtpnnfkefddkjcaaQRunsTellsx7
import Derived.Test.YtpnnfkefddkjcaaQRunsTellsx8
import Derived.Test.YtpnnfkefddkjcaaQRunsTellsx9
import Derived.Test.YtpnnfkefddkjcaaQRunsTellsx10
import Derived.Test.YtpnnfkefddkjcaaQRunsTellsx11
import Derived.Test.YtpnnfkefddkjcaaQRunsTellsx12
namespace Go.Proofs.Ytpnnfkefddkjcaa.QRunsTells
open Go.RowKit Go.Proofs.YtpnnfkefddkjcaaW.PrintWords Go.Proofs.YtpnnfkefddkjcaaW.PrintLast Go.Proofs.YtpnnfkefddkjcaaW.PrintMore
attribute [local go_sem] max2_int min2_int max_two min_two max_three min_three max_four min_four   -- for this text's walks alone
set_option linter.unusedVariables false
set_option linter.unusedSimpArgs false

end Go.Proofs.Ytpnnfkefddkjcaa.QRunsTells

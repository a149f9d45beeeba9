-- Written by a program of this session (wip/myprint.py): the machine's side of a law
import Derived.Test.YtpnnfkefddkjcaaQRunsListsx0
import Derived.Test.YtpnnfkefddkjcaaQRunsListsx1
import Derived.Test.YtpnnfkefddkjcaaQRunsListsx2
import Derived.Test.YtpnnfkefddkjcaaQRunsListsx3
import Derived.Test.YtpnnfkefddkjcaaQRunsListsx4
import Derived.Test.YtpnnfkefddkjcaaQRunsListsx5
import Derived.Test.YtpnnfkefddkjcaaQRunsListsx6
import Derived.Test.YtpnnfkefddkjcaaQRunsListsx7
import Derived.Test.YtpnnfkefddkjcaaQRunsListsx8
namespace Go.Proofs.Ytpnnfkefddkjcaa.QRunsLists
open Go.RowKit Go.Proofs.YtpnnfkefddkjcaaW.PrintWords Go.Proofs.YtpnnfkefddkjcaaW.PrintLast Go.Proofs.YtpnnfkefddkjcaaW.PrintMore
attribute [local go_sem] max2_int min2_int max_two min_two max_three min_three max_four min_four   -- for this text's walks alone
set_option linter.unusedVariables false
set_option linter.unusedSimpArgs false

end Go.Proofs.Ytpnnfkefddkjcaa.QRunsLists

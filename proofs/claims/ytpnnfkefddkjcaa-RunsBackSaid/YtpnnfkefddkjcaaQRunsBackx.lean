-- Written by a program of this session (wip/myprint.py): the machine's side of a law
import Derived.Test.YtpnnfkefddkjcaaQRunsBackx0
import Derived.Test.YtpnnfkefddkjcaaQRunsBackx1
import Derived.Test.YtpnnfkefddkjcaaQRunsBackx2
import Derived.Test.YtpnnfkefddkjcaaQRunsBackx3
import Derived.Test.YtpnnfkefddkjcaaQRunsBackx4
import Derived.Test.YtpnnfkefddkjcaaQRunsBackx5
import Derived.Test.YtpnnfkefddkjcaaQRunsBackx6
import Derived.Test.YtpnnfkefddkjcaaQRunsBackx7
namespace Go.Proofs.Ytpnnfkefddkjcaa.QRunsBack
open Go.RowKit Go.Proofs.YtpnnfkefddkjcaaW.PrintWords Go.Proofs.YtpnnfkefddkjcaaW.PrintLast Go.Proofs.YtpnnfkefddkjcaaW.PrintMore
attribute [local go_sem] max2_int min2_int max_two min_two max_three min_three max_four min_four   -- for this text's walks alone
set_option linter.unusedVariables false
set_option linter.unusedSimpArgs false

end Go.Proofs.Ytpnnfkefddkjcaa.QRunsBack

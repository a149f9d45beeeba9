-- Written by a program of this session (wip/myprint.py): the machine's side of a law
import Derived.Test.YtpnnfkefddkjcaaQRunsShapesx0
import Derived.Test.YtpnnfkefddkjcaaQRunsShapesx1
import Derived.Test.YtpnnfkefddkjcaaQRunsShapesx2
import Derived.Test.YtpnnfkefddkjcaaQRunsShapesx3
import Derived.Test.YtpnnfkefddkjcaaQRunsShapesx4
import Derived.Test.YtpnnfkefddkjcaaQRunsShapesx5
import Derived.Test.YtpnnfkefddkjcaaQRunsShapesx6
import Derived.Test.YtpnnfkefddkjcaaQRunsShapesx7
import Derived.Test.YtpnnfkefddkjcaaQRunsShapesx8
import Derived.Test.YtpnnfkefddkjcaaQRunsShapesx9
import Derived.Test.YtpnnfkefddkjcaaQRunsShapesx10
import Derived.Test.YtpnnfkefddkjcaaQRunsShapesx11
import Derived.Test.YtpnnfkefddkjcaaQRunsShapesx12
namespace Go.Proofs.Ytpnnfkefddkjcaa.QRunsShapes
open Go.RowKit Go.Proofs.YtpnnfkefddkjcaaW.PrintWords Go.Proofs.YtpnnfkefddkjcaaW.PrintLast Go.Proofs.YtpnnfkefddkjcaaW.PrintMore
attribute [local go_sem] max2_int min2_int max_two min_two max_three min_three max_four min_four   -- for this text's walks alone
set_option linter.unusedVariables false
set_option linter.unusedSimpArgs false

end Go.Proofs.Ytpnnfkefddkjcaa.QRunsShapes

-- Written by a program of this session (wip/myprint.py): the machine's side of a law
import Derived.Test.YtalpcnomfebdiaaQPredLimitsx0
import Derived.Test.YtalpcnomfebdiaaQPredLimitsx1
import Derived.Test.YtalpcnomfebdiaaQPredLimitsx2
import Derived.Test.YtalpcnomfebdiaaQPredLimitsx3
import Derived.Test.YtalpcnomfebdiaaQPredLimitsx4
import Derived.Test.YtalpcnomfebdiaaQPredLimitsx5
import Derived.Test.YtalpcnomfebdiaaQPredLimitsx6
import Derived.Test.YtalpcnomfebdiaaQPredLimitsx7
import Derived.Test.YtalpcnomfebdiaaQPredLimitsx8
import Derived.Test.YtalpcnomfebdiaaQPredLimitsx9
import Derived.Test.YtalpcnomfebdiaaQPredLimitsx10
import Derived.Test.YtalpcnomfebdiaaQPredLimitsx11
import Derived.Test.YtalpcnomfebdiaaQPredLimitsx12
import Derived.Test.YtalpcnomfebdiaaQPredLimitsx13
namespace Go.Proofs.Ytalpcnomfebdiaa.QPredLimits
open Go.RowKit Go.Proofs.YtalpcnomfebdiaaW.PrintWords Go.Proofs.YtalpcnomfebdiaaW.PrintLast Go.Proofs.YtalpcnomfebdiaaW.PrintMore
attribute [local go_sem] max2_int min2_int max_two min_two max_three min_three max_four min_four   -- for this text's walks alone
set_option linter.unusedVariables false
set_option linter.unusedSimpArgs false

end Go.Proofs.Ytalpcnomfebdiaa.QPredLimits

-- Written by a program of this session (wip/myprint.py): the machine's side of a law
import Derived.Test.YtalpcnomfebdiaaQPredRulesx0
import Derived.Test.YtalpcnomfebdiaaQPredRulesx1
import Derived.Test.YtalpcnomfebdiaaQPredRulesx2
import Derived.Test.YtalpcnomfebdiaaQPredRulesx3
import Derived.Test.YtalpcnomfebdiaaQPredRulesx4
import Derived.Test.YtalpcnomfebdiaaQPredRulesx5
import Derived.Test.YtalpcnomfebdiaaQPredRulesx6
import Derived.Test.YtalpcnomfebdiaaQPredRulesx7
import Derived.Test.YtalpcnomfebdiaaQPredRulesx8
import Derived.Test.YtalpcnomfebdiaaQPredRulesx9
import Derived.Test.YtalpcnomfebdiaaQPredRulesx10
import Derived.Test.YtalpcnomfebdiaaQPredRulesx11
import Derived.Test.YtalpcnomfebdiaaQPredRulesx12
import Derived.Test.YtalpcnomfebdiaaQPredRulesx13
import Derived.Test.YtalpcnomfebdiaaQPredRulesx14
import Derived.Test.YtalpcnomfebdiaaQPredRulesx17
namespace Go.Proofs.Ytalpcnomfebdiaa.QPredRules
open Go.RowKit Go.Proofs.YtalpcnomfebdiaaW.PrintWords Go.Proofs.YtalpcnomfebdiaaW.PrintLast Go.Proofs.YtalpcnomfebdiaaW.PrintMore
attribute [local go_sem] max2_int min2_int max_two min_two max_three min_three max_four min_four   -- for this text's walks alone
set_option linter.unusedVariables false
set_option linter.unusedSimpArgs false

end Go.Proofs.Ytalpcnomfebdiaa.QPredRules

-- Written by a program of this session (wip/myprint.py): the machine's side of a law
import Derived.Test.YtllboaghcfeepaaQDictRulesx0
import Derived.Test.YtllboaghcfeepaaQDictRulesx1
import Derived.Test.YtllboaghcfeepaaQDictRulesx2
import Derived.Test.YtllboaghcfeepaaQDictRulesx3
import Derived.Test.YtllboaghcfeepaaQDictRulesx4
namespace Go.Proofs.Ytllboaghcfeepaa.QDictRules
open Go.RowKit Go.Proofs.YtllboaghcfeepaaW.PrintWords Go.Proofs.YtllboaghcfeepaaW.PrintLast Go.Proofs.YtllboaghcfeepaaW.PrintMore
attribute [local go_sem] max2_int min2_int max_two min_two max_three min_three max_four min_four   -- for this text's walks alone
set_option linter.unusedVariables false
set_option linter.unusedSimpArgs false

end Go.Proofs.Ytllboaghcfeepaa.QDictRules

-- Written by a program of this session (wip/myprint.py): the machine's side of a law
import Derived.Test.YtllboaghcfeepaaQDictBackx0
import Derived.Test.YtllboaghcfeepaaQDictBackx1
import Derived.Test.YtllboaghcfeepaaQDictBackx2
import Derived.Test.YtllboaghcfeepaaQDictBackx3
import Derived.Test.YtllboaghcfeepaaQDictBackx4
import Derived.Test.YtllboaghcfeepaaQDictBackx5
namespace Go.Proofs.Ytllboaghcfeepaa.QDictBack
open Go.RowKit Go.Proofs.YtllboaghcfeepaaW.PrintWords Go.Proofs.YtllboaghcfeepaaW.PrintLast Go.Proofs.YtllboaghcfeepaaW.PrintMore
attribute [local go_sem] max2_int min2_int max_two min_two max_three min_three max_four min_four   -- for this text's walks alone
set_option linter.unusedVariables false
set_option linter.unusedSimpArgs false

end Go.Proofs.Ytllboaghcfeepaa.QDictBack

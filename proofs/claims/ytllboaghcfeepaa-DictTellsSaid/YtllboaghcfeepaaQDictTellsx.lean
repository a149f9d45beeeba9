-- Written by a program of this session (wip/myprint.py): the machine's side of a law
import Derived.Test.YtllboaghcfeepaaQDictTellsx0
import Derived.Test.YtllboaghcfeepaaQDictTellsx1
import Derived.Test.YtllboaghcfeepaaQDictTellsx2
import Derived.Test.YtllboaghcfeepaaQDictTellsx3
import Derived.Test.YtllboaghcfeepaaQDictTellsx4
import Derived.Test.YtllboaghcfeepaaQDictTellsx5
import Derived.Test.YtllboaghcfeepaaQDictTellsx6
import Derived.Test.YtllboaghcfeepaaQDictTellsx7
import Derived.Test.YtllboaghcfeepaaQDictTellsx8
import Derived.Test.YtllboaghcfeepaaQDictTellsx9
import Derived.Test.YtllboaghcfeepaaQDictTellsx10
namespace Go.Proofs.Ytllboaghcfeepaa.QDictTells
open Go.RowKit Go.Proofs.YtllboaghcfeepaaW.PrintWords Go.Proofs.YtllboaghcfeepaaW.PrintLast Go.Proofs.YtllboaghcfeepaaW.PrintMore
attribute [local go_sem] max2_int min2_int max_two min_two max_three min_three max_four min_four   -- for this text's walks alone
set_option linter.unusedVariables false
set_option linter.unusedSimpArgs false

end Go.Proofs.Ytllboaghcfeepaa.QDictTells

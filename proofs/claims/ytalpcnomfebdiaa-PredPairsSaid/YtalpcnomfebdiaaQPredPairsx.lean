-- Written by a program of this session (wip/myprint.py): the machine's side of a law
import Derived.Test.YtalpcnomfebdiaaQPredPairsx0
import Derived.Test.YtalpcnomfebdiaaQPredPairsx1
import Derived.Test.YtalpcnomfebdiaaQPredPairsx2
import Derived.Test.YtalpcnomfebdiaaQPredPairsx3
import Derived.Test.YtalpcnomfebdiaaQPredPairsx4
import Derived.Test.YtalpcnomfebdiaaQPredPairsx5
import Derived.Test.YtalpcnomfebdiaaQPredPairsx6
import Derived.Test.YtalpcnomfebdiaaQPredPairsx7
import Derived.Test.YtalpcnomfebdiaaQPredPairsx8
import Derived.Test.YtalpcnomfebdiaaQPredPairsx9
import Derived.Test.YtalpcnomfebdiaaQPredPairsx10
import Derived.Test.YtalpcnomfebdiaaQPredPairsx11
import Derived.Test.YtalpcnomfebdiaaQPredPairsx12
import Derived.Test.YtalpcnomfebdiaaQPredPairsx15
namespace Go.Proofs.Ytalpcnomfebdiaa.QPredPairs
open Go.RowKit Go.Proofs.YtalpcnomfebdiaaW.PrintWords Go.Proofs.YtalpcnomfebdiaaW.PrintLast Go.Proofs.YtalpcnomfebdiaaW.PrintMore
attribute [local go_sem] max2_int min2_int max_two min_two max_three min_three max_four min_four   -- for this text's walks alone
set_option linter.unusedVariables false
set_option linter.unusedSimpArgs false

end Go.Proofs.Ytalpcnomfebdiaa.QPredPairs

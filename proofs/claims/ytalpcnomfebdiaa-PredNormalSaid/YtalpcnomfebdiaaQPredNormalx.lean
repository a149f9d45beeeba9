-- Written by a program of this session (wip/myprint.py): the machine's side of a law
import Derived.Test.YtalpcnomfebdiaaQPredNormalx0
import Derived.Test.YtalpcnomfebdiaaQPredNormalx1
import Derived.Test.YtalpcnomfebdiaaQPredNormalx2
import Derived.Test.YtalpcnomfebdiaaQPredNormalx3
import Derived.Test.YtalpcnomfebdiaaQPredNormalx4
import Derived.Test.YtalpcnomfebdiaaQPredNormalx5
import Derived.Test.YtalpcnomfebdiaaQPredNormalx6
import Derived.Test.YtalpcnomfebdiaaQPredNormalx7
import Derived.Test.YtalpcnomfebdiaaQPredNormalx8
import Derived.Test.YtalpcnomfebdiaaQPredNormalx9
import Derived.Test.YtalpcnomfebdiaaQPredNormalx10
import Derived.Test.YtalpcnomfebdiaaQPredNormalx11
import Derived.Test.YtalpcnomfebdiaaQPredNormalx12
import Derived.Test.YtalpcnomfebdiaaQPredNormalx13
import Derived.Test.YtalpcnomfebdiaaQPredNormalx14
import Derived.Test.YtalpcnomfebdiaaQPredNormalx15
namespace Go.Proofs.Ytalpcnomfebdiaa.QPredNormal
open Go.RowKit Go.Proofs.YtalpcnomfebdiaaW.PrintWords Go.Proofs.YtalpcnomfebdiaaW.PrintLast Go.Proofs.YtalpcnomfebdiaaW.PrintMore
attribute [local go_sem] max2_int min2_int max_two min_two max_three min_three max_four min_four   -- for this text's walks alone
set_option linter.unusedVariables false
set_option linter.unusedSimpArgs false

end Go.Proofs.Ytalpcnomfebdiaa.QPredNormal

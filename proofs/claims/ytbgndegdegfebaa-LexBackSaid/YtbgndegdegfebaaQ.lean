-- PRINTED by print.py (a twelfth state) out of the translation. Not trusted: Lean checks it.
import Derived.Test.YtbgndegdegfebaaQ7
import Derived.Test.YtbgndegdegfebaaQ8
import Derived.Test.YtbgndegdegfebaaQ9
import Derived.Test.YtbgndegdegfebaaQ10
import Derived.Test.YtbgndegdegfebaaQ11
import Derived.Test.YtbgndegdegfebaaQ12
import Derived.Test.YtbgndegdegfebaaQ13
import Derived.Test.YtbgndegdegfebaaQ14
import Derived.Test.YtbgndegdegfebaaQ15
import Derived.Test.YtbgndegdegfebaaQ16
import Derived.Test.YtbgndegdegfebaaQ17
import Derived.Test.YtbgndegdegfebaaQ18
import Derived.Test.YtbgndegdegfebaaQ19
import Derived.Test.YtbgndegdegfebaaQ20
import Derived.Test.YtbgndegdegfebaaQ21
import Derived.Test.YtbgndegdegfebaaQ22
import Derived.Test.YtbgndegdegfebaaQ23
import Derived.Test.YtbgndegdegfebaaQ24
namespace Go.Proofs.Ytbgndegdegfebaa.Q
open Go.RowKit Go.Proofs.YtbgndegdegfebaaW.PrintWords Go.Proofs.YtbgndegdegfebaaW.PrintLast Go.Proofs.YtbgndegdegfebaaW.PrintMore
attribute [local go_sem] max2_int min2_int max_two min_two max_three min_three max_four min_four   -- for this text's walks alone
set_option linter.unusedVariables false
set_option linter.unusedSimpArgs false

end Go.Proofs.Ytbgndegdegfebaa.Q

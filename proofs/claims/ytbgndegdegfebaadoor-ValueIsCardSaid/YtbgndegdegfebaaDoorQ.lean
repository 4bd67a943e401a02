-- PRINTED by print.py (a twelfth state) out of the translation. Not trusted: Lean checks it.
import Derived.Test.YtbgndegdegfebaaDoorQ0
import Derived.Test.YtbgndegdegfebaaDoorQ1
import Derived.Test.YtbgndegdegfebaaDoorQ2
import Derived.Test.YtbgndegdegfebaaDoorQ3
import Derived.Test.YtbgndegdegfebaaDoorQ4
import Derived.Test.YtbgndegdegfebaaDoorQ5
import Derived.Test.YtbgndegdegfebaaDoorQ6
import Derived.Test.YtbgndegdegfebaaDoorQ7
import Derived.Test.YtbgndegdegfebaaDoorQ8
import Derived.Test.YtbgndegdegfebaaDoorQ9
import Derived.Test.YtbgndegdegfebaaDoorQ10
import Derived.Test.YtbgndegdegfebaaDoorQ11
import Derived.Test.YtbgndegdegfebaaDoorQ12
import Derived.Test.YtbgndegdegfebaaDoorQ13
import Derived.Test.YtbgndegdegfebaaDoorQ14
namespace Go.Proofs.YtbgndegdegfebaaDoor.Q
open Go.RowKit Go.Proofs.YtbgndegdegfebaaDoorW.PrintWords Go.Proofs.YtbgndegdegfebaaDoorW.PrintLast Go.Proofs.YtbgndegdegfebaaDoorW.PrintMore
attribute [local go_sem] max2_int min2_int max_two min_two max_three min_three max_four min_four   -- for this text's walks alone
set_option linter.unusedVariables false
set_option linter.unusedSimpArgs false

end Go.Proofs.YtbgndegdegfebaaDoor.Q

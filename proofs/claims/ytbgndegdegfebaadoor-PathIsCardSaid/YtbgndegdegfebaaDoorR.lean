-- PRINTED by print.py (a twelfth state) out of the translation. Not trusted: Lean checks it.
import Derived.Test.YtbgndegdegfebaaDoorR0
import Derived.Test.YtbgndegdegfebaaDoorR1
import Derived.Test.YtbgndegdegfebaaDoorR2
import Derived.Test.YtbgndegdegfebaaDoorR3
import Derived.Test.YtbgndegdegfebaaDoorR4
import Derived.Test.YtbgndegdegfebaaDoorR5
import Derived.Test.YtbgndegdegfebaaDoorR6
import Derived.Test.YtbgndegdegfebaaDoorR7
import Derived.Test.YtbgndegdegfebaaDoorR8
import Derived.Test.YtbgndegdegfebaaDoorR9
import Derived.Test.YtbgndegdegfebaaDoorR10
import Derived.Test.YtbgndegdegfebaaDoorR11
import Derived.Test.YtbgndegdegfebaaDoorR12
namespace Go.Proofs.YtbgndegdegfebaaDoor.R
open Go.RowKit Go.Proofs.YtbgndegdegfebaaDoorW.PrintWords Go.Proofs.YtbgndegdegfebaaDoorW.PrintLast Go.Proofs.YtbgndegdegfebaaDoorW.PrintMore
attribute [local go_sem] max2_int min2_int max_two min_two max_three min_three max_four min_four   -- for this text's walks alone
set_option linter.unusedVariables false
set_option linter.unusedSimpArgs false

end Go.Proofs.YtbgndegdegfebaaDoor.R

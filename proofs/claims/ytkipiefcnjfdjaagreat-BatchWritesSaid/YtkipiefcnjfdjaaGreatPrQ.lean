/- PressLongest: the law's walk, for every input. -/
import Derived.Test.YtkipiefcnjfdjaaGreatOpens
import Derived.Test.YtkipiefcnjfdjaaGreatPrP
namespace Go.Proofs.YtkipiefcnjfdjaaGreat
open Go.RowKit Go.Bs Go.Maps
set_option linter.unusedVariables false
set_option linter.unusedSimpArgs false

end Go.Proofs.YtkipiefcnjfdjaaGreat

/- Printed by a program of this session (wip/ext.py) out of the translation, after the kit's print. Not trusted: Lean checks it. -/
import Derived.Test.YthiehmogphknlaaGreatDoorPAx0
import Derived.Test.YthiehmogphknlaaGreatDoorPAx1
import Derived.Test.YthiehmogphknlaaGreatDoorPAx2
import Derived.Test.YthiehmogphknlaaGreatDoorPAx3
import Derived.Test.YthiehmogphknlaaGreatDoorPAx4
import Derived.Test.YthiehmogphknlaaGreatDoorPAx5
namespace Go.Proofs.YthiehmogphknlaaGreatDoor.PA
open Go.Proofs.YthiehmogphknlaaGreatDoor.G Go.RowKit Go.Proofs.YthiehmogphknlaaGreatDoorW.PrintWords Go.Proofs.YthiehmogphknlaaGreatDoorW.PrintLast Go.Proofs.YthiehmogphknlaaGreatDoorW.PrintMore
attribute [local go_sem] max2_int min2_int max_two min_two max_three min_three max_four min_four   -- for this text's walks alone
set_option linter.unusedVariables false
set_option linter.unusedSimpArgs false

end Go.Proofs.YthiehmogphknlaaGreatDoor.PA

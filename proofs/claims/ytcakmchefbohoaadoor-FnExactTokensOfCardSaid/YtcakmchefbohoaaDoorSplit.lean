/- Contracts: texts split at a byte, by the reference; words read as numbers; lists as text. -/
import Derived.Test.YtcakmchefbohoaaDoorProg
import Derived.Test.YtcakmchefbohoaaDoorMem
import Derived.Test.YtcakmchefbohoaaDoorMath
import Derived.Test.YtcakmchefbohoaaDoorBasics
import Derived.Test.YtcakmchefbohoaaDoorShelf
import Derived.Test.YtcakmchefbohoaaDoorDec
import Derived.Test.YtcakmchefbohoaaDoorNum
import Derived.Test.YtcakmchefbohoaaDoorRead
import Derived.Test.YtcakmchefbohoaaDoorText
import Derived.Test.YtcakmchefbohoaaDoorGrid
import Derived.Test.YtcakmchefbohoaaDoorHelpI
import Derived.WalkKit
import Derived.BigQuiet
import Derived.Maps.AppendAt
import Derived.Lib.Hide
import Derived.Outline
set_option linter.unusedVariables false
set_option linter.unusedSimpArgs false
namespace Go.Proofs.YtcakmchefbohoaaDoor
open Go.RowKit

end Go.Proofs.YtcakmchefbohoaaDoor

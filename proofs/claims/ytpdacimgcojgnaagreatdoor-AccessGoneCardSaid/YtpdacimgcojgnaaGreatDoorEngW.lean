/- A function without arguments that is run in two parts: what the first part made stands from then on. -/
import Derived.Test.YtpdacimgcojgnaaGreatDoorEngU
set_option linter.all false
namespace Go.Eng
open Go.RowKit

variable [Known]
section
variable {P:Program}{X:Ctx}{base:Nat}{T B:Area}{I:Inj}{S:Store}{w:World}

end
end Go.Eng

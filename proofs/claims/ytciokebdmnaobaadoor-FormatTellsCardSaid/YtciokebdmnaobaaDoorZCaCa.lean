/- Texts joined, in order: Ca. -/
import Derived.Test.YtciokebdmnaobaaDoorZEmGb
import Derived.Test.YtciokebdmnaobaaDoorZGeTab
/- Contracts of the small functions of the buffer's mode. -/
namespace Go.Proofs.YtciokebdmnaobaaDoor
open Go Go.Eng
set_option maxHeartbeats 4000000
set_option linter.unusedSimpArgs false
set_option linter.unusedVariables false
set_option maxRecDepth 100000

def mayV (m s : Int) : Int := if m < 1 ∨ 3 < m then 1 else if s < 1 ∨ 65536 < s then 4 else 0



theorem mixed : Tryd.prog.follows .mixedOrders = true := by kernel_rfl

end Go.Proofs.YtciokebdmnaobaaDoor

/- Walks of what looks whether blinds, suns, plans and numbers are right. -/
import Derived.Test.YtdcjoafagalejaaDoorFall
namespace Go.Proofs.YtdcjoafagalejaaDoor
set_option maxRecDepth 20000
open Go.RowKit

def codeOf (ok right : Bool) : Int := if ok then (if right then 0 else 2) else 1
theorem size_blind (B : Bld) : (Tryd.prog.info? 179).map (·.size) = some (bcells B).size := by kernel_rfl
end Go.Proofs.YtdcjoafagalejaaDoor

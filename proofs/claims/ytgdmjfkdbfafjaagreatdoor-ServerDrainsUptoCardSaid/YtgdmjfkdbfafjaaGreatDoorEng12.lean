/- Own engine: Ved. -/
import Derived.Test.YtgdmjfkdbfafjaaGreatDoorEng11
set_option linter.unusedVariables false
set_option linter.unusedSimpArgs false
namespace Go.Vc
open Go.RowKit
section
variable {D:Type}
def okD:Option DP->Bool
 | none=>true
 | some p=>p.b
end
section
variable {D:Type}{S:Sh D}{T:TypeId->Option Ty}{Γ:FuncId->Option (Ct D)}{R:Type}
end
end Go.Vc

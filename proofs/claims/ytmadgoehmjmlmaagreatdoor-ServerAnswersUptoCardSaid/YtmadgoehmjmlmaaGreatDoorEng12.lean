/- Own engine: Ved. -/
import Derived.Test.YtmadgoehmjmlmaaGreatDoorEng11
set_option linter.unusedVariables false
set_option linter.unusedSimpArgs false
namespace Go.Vc
open Go.RowKit
section
variable {D:Type}
def Tr.go:{R:Type}->Tr D R->Option R
 | _, .ret r=>some r
 | _, .ob p k=>cond p.b k.go none
 | _, .as _ k=>k.go
 | _, .br b t e=>cond b t.go e.go
 | _, .stuck _=>none
 | _, .halt _ _=>none
 | _, .unk _ _ _=>none
 | _, .loop _ _ _=>none
 | _, .cut _ _ _=>none
def okD:Option DP->Bool
 | none=>true
 | some p=>p.b
end
section
variable {D:Type}{S:Sh D}{T:TypeId->Option Ty}{Γ:FuncId->Option (Ct D)}{R:Type}
end
end Go.Vc

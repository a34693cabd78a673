/- Own engine: Vgo. -/
import Derived.Test.YtjojefbphdmnjaaGreatDoorEng8
set_option linter.unusedVariables false
set_option linter.unusedSimpArgs false
namespace Go.Vc
open Go.RowKit
section
variable {D:Type}{P:Program}{S:Sh D}{T:TypeId->Option Ty}{Γ:FuncId->Option (Ct D)}{N:Nat->Prop}{w w':World}{w0:Bs}{g0:Nat->Option Value}{n:Nat}
def evT (T:TypeId->Option Ty)(S:Sh D)(a:FuncId->Option (Ct D))(n:Nat)(J:Nat->Option (Shp D))(c:Code)(R:Type)(s:St D)(K:Ex->St D->Tr D R):Tr D R:=evC T S a n J c R s K
theorem evT_sound {J:Nat->Option (Shp D)}(v:∀i l,J i=some l->ShpOk S l)(h:P.follows .mixedOrders=true)(r:∀t g,T t=some g->TyOk P t g)(q:∀f m,Γ f=some m->CtOk P S f m)(u:ShOk S):
  ∀(c:Code) (R:Type) (s:St D) (K:Ex->St D->Tr D R) (d k:R) (Q:Exit->Act->World->Prop) (a:Act) (w:World),drawsOk c=true->(evT T S Γ n J c R s K).run d=some k->HoldsSt S w0 g0 N n s a w->
   (∀e b j o,HoldsSt S w0 g0 N n b j o->(∃p,b.blks=p++s.blks)->(∀t,t∉writes c->b.slot t=s.slot t)->(K e b).run d=some k->Q (exOf e) j o)->c.wp P Q a w:=
 ev_sound v h r q u
end
end Go.Vc

/- Own engine: Vep. -/
import Derived.Test.YtmadgoehmjmlmaaGreatDoorEng16
set_option linter.unusedVariables false
set_option linter.unusedSimpArgs false
namespace Go.Vc
section
variable {A:Type}
variable {c:A->A->Int}{q:A->A->Prop}{d:A}{g:A->A}
theorem aiD (hg:∀a,g a=a){a b n:Int}{l:List A}(h:swQ a b n l.length):Is (Zq g d a b n l):=by
 obtain rfl:g=fun a=>a:=funext hg
 exact avj h
theorem agS (hg:∀a,g a=a){a m b:Int}{l:List A}(h:roQ a m b l.length):Is (X4 g d a m b l):=by
 obtain rfl:g=fun a=>a:=funext hg
 exact aqA h
theorem agM (hg:∀a,g a=a)(hs:FO (ltOf c)){a b:Int}{l:List A}(h:JC q a b l):Is (Zz g c q d a b l):=by
 obtain rfl:g=fun a=>a:=funext hg
 exact auj hs h
theorem GV (hg:∀a,g a=a)(hs:FO (ltOf c)){DI:Int->Int->Int->List A->List A}{Hr:Int->Int->Int->List A->Prop}{fu:Nat}(hQ:∀a m b l,Ql c q fu a m b l->Hr a m b l)(hR:∀a m b l,Ql c q fu a m b l->mrg c a b l (DI a m b l)){a m b:Int}{l:List A}(h:Ql c q (fu+1) a m b l):jF (aeD g c q d DI Hr a m b l) (mrg c a b l):=by
 obtain rfl:g=fun a=>a:=funext hg
 exact TJ hs hQ hR h
theorem G_ (hg:∀a,g a=a)(hs:FO (ltOf c)){DI:Int->Int->Int->List A->List A}(hR:∀a m b l,Ql c q ((b - a).toNat+1) a m b l->mrg c a b l (DI a m b l)){n:Int}{l:List A}(hq:stQ q n l):jF (afu g c q d DI n l) (Sorted c l):=by
 obtain rfl:g=fun a=>a:=funext hg
 exact Tm hs hR hq
end
end Go.Vc

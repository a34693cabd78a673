/- Own engine: Vep. -/
import Derived.Test.YtenjnekcoapajaaGreatDoorEng16
set_option linter.unusedVariables false
set_option linter.unusedSimpArgs false
namespace Go.Vc
section
variable {A:Type}
variable {c:A->A->Int}{q:A->A->Prop}{d:A}{g:A->A}
theorem auM (c:∀a,g a=a){a b n:Int}{l:List A}(h:swQ a b n l.length):Is (af_ g d a b n l):=by
 obtain rfl:g=fun a=>a:=funext c
 exact aBT h
theorem atq (c:∀a,g a=a){a m b:Int}{l:List A}(h:roQ a m b l.length):Is (afF g d a m b l):=by
 obtain rfl:g=fun a=>a:=funext c
 exact aCn h
theorem as8 (e:∀a,g a=a)(f:yg (ltOf c)){a b:Int}{l:List A}(h:inQ q a b l):Is (aeT g c q d a b l):=by
 obtain rfl:g=fun a=>a:=funext e
 exact aBP f h
theorem QT (f:∀a,g a=a)(i:yg (ltOf c)){IW:Int->Int->Int->List A->List A}{MJ:Int->Int->Int->List A->Prop}{e:Nat}(k:∀a m b l,XH c q e a m b l->MJ a m b l)(j:∀a m b l,XH c q e a m b l->mrg c a b l (IW a m b l)){a m b:Int}{l:List A}(h:XH c q (e+1) a m b l):gU (alQ g c q d IW MJ a m b l) (mrg c a b l):=by
 obtain rfl:g=fun a=>a:=funext f
 exact aiW i k j h
theorem QP (h:∀a,g a=a)(i:yg (ltOf c)){IW:Int->Int->Int->List A->List A}(f:∀a m b l,XH c q ((b - a).toNat+1) a m b l->mrg c a b l (IW a m b l)){n:Int}{l:List A}(e:stQ q n l):gU (amM g c q d IW n l) (Sorted c l):=by
 obtain rfl:g=fun a=>a:=funext h
 exact ajb i f e
end
end Go.Vc

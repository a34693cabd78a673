/- Own engine: Vep. -/
import Derived.Test.YtenjjcfebflefaaGreatDoorEng16
set_option linter.unusedVariables false
set_option linter.unusedSimpArgs false
namespace Go.Vc
section
variable {A:Type}
variable {c:A->A->Int}{q:A->A->Prop}{d:A}{g:A->A}
theorem avk (c:∀a,g a=a){a b n:Int}{l:List A}(h:swQ a b n l.length):Is (aiP g d a b n l):=by
 obtain rfl:g=fun a=>a:=funext c
 exact aCr h
theorem atm (c:∀a,g a=a){a m b:Int}{l:List A}(h:roQ a m b l.length):Is (ai2 g d a m b l):=by
 obtain rfl:g=fun a=>a:=funext c
 exact aCZ h
theorem axq (f:∀a,g a=a)(e:zT (ltOf c)){a b:Int}{l:List A}(h:inQ q a b l):Is (agP g c q d a b l):=by
 obtain rfl:g=fun a=>a:=funext f
 exact aCx e h
theorem Uu (j:∀a,g a=a)(f:zT (ltOf c)){JL:Int->Int->Int->List A->List A}{PE:Int->Int->Int->List A->Prop}{e:Nat}(i:∀a m b l,Z4 c q e a m b l->PE a m b l)(k:∀a m b l,Z4 c q e a m b l->mrg c a b l (JL a m b l)){a m b:Int}{l:List A}(h:Z4 c q (e+1) a m b l):kw (anR g c q d JL PE a m b l) (mrg c a b l):=by
 obtain rfl:g=fun a=>a:=funext j
 exact aj0 f i k h
theorem Uo (h:∀a,g a=a)(f:zT (ltOf c)){JL:Int->Int->Int->List A->List A}(i:∀a m b l,Z4 c q ((b - a).toNat+1) a m b l->mrg c a b l (JL a m b l)){n:Int}{l:List A}(e:stQ q n l):kw (ao3 g c q d JL n l) (Sorted c l):=by
 obtain rfl:g=fun a=>a:=funext h
 exact ajT f i e
end
end Go.Vc

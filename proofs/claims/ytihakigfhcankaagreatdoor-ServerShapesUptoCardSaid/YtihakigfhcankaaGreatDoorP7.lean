/- Server: servers are made; the law's functions. -/
import Derived.Test.YtihakigfhcankaaGreatDoorP6
namespace Go.Proofs.YtihakigfhcankaaGreatDoor
noncomputable section
open Go.RowKit Go.Vc
open Tryz
set_option linter.unusedVariables false
set_option linter.unusedSimpArgs false
set_option maxRecDepth 100000
def Xw (s:ay)(hs:List cO)(l:List iY):Prop:=okS s/\(∀x∈hs,x.Method.length<=1048576)/\H8 l/\hs.length<=1048576/\l.length<=1048576
def art (name:Str)(s:ay)(hs:List cO)(l:List iY)(most:Int):Pg (Server×Int):=.br (!ava name) (.ret (Server.mk [] (ay.mk [] [] []) [] [] [] [] 0 false,8)) (.ob (okS s) (.br (!o_ s) (.ret (Server.mk [] (ay.mk [] [] []) [] [] [] [] 0 false,1)) (.br (decide (most < 1)) (.ret (Server.mk [] (ay.mk [] [] []) [] [] [] [] 0 false,1)) (.br (decide (64 < most)) (.ret (Server.mk [] (ay.mk [] [] []) [] [] [] [] 0 false,1)) (.cut (fun(y4:Unit)=> .cut (fun(y8:Unit)=> .cut (fun(V_:Unit)=> .ob (H8 l) (.lt (aDM l) fun(v19:Int)=> .br (v19 !=0) (.ret (Server.mk [] (ay.mk [] [] []) [] [] [] [] 0 false,v19)) (aL hs (.each false tX hs kC (fun i16 a18 (y17:Unit)=> .ix i16 hs.length (.ob (List.length a18.Method<=1048576) (.br (!adM s a18) (.ret (.inr (Server.mk [] (ay.mk [] [] []) [] [] [] [] 0 false,12))) (rl ())))) (fun i16 (y17:Unit)=> .ob (bT (0+hs.length) 40) (.ob (bT (0+l.length) 56) (.ret (Server.mk name s hs l [] [] most false,0)))) ())))) (aL hs (.each false tX hs kC (fun i9 a14 (Ai:Unit)=> .ix i9 hs.length (.ob ((0:Int)<=0/\0<=i9/\i9<=(↑hs.length:Int)) (.as ((List.take i9.toNat hs).length<=9223372036854775807) (.each false tX (List.take i9.toNat hs) kC (fun i11 a13 (y12:Unit)=> .ix i11 (List.take i9.toNat hs).length (.br (a14.Method==a13.Method) (.ret (.inr (.inr (.inr (Server.mk [] (ay.mk [] [] []) [] [] [] [] 0 false,9))))) (rl ()))) (fun i11 (y12:Unit)=> rl ()) ())))) (fun i9 (Ai:Unit)=> rl ()) ()))) (aL hs (.each false tX hs kC (fun i5 a7 (y6:Unit)=> .ix i5 hs.length (.ob (List.length a7.Method<=1048576) (.br ((fD s a7.Method).2 !=0) (.ret (.inr (.inr (Server.mk [] (ay.mk [] [] []) [] [] [] [] 0 false,10)))) (rl ())))) (fun i5 (y6:Unit)=> rl ()) ()))) (aL hs (.each false tX hs kC (fun i1 a3 (y2:Unit)=> .ix i1 hs.length (.br (!QW a3) (.ret (.inr (.inr (Server.mk [] (ay.mk [] [] []) [] [] [] [] 0 false,1)))) (rl ()))) (fun i1 (y2:Unit)=> rl ()) ())))))))
def ai0 (name:Str)(s:ay)(hs:List cO)(l:List iY)(most:Int):=(art name s hs l most).val
theorem ayi (name:Str)(s:ay)(hs:List cO)(l:List iY)(most:Int)(h:Xw s hs l):Is (art name s hs l most):=
 di iR (fun _=>aX (h.1) (di iR (fun _=>dV iR (fun _=>dV iR (fun _=>oQ (iH fun _=>gU (.inr au) (fun i1 y2 _ _=>dm au au (di iR iR)) (fun y2 _=>aT)) (fun y4 hy4=>oQ (iH fun _=>gU (.inr au) (fun i5 y6 _ _=>dm au au (aX ((h.2.1 _ (getD_mem (d:=kC) au))) (jG iR iR))) (fun y6 _=>aT)) (fun y8 hy8=>oQ (iH fun _=>gU (.inr au) (fun i9 Ai _ _=>dm au au (aX au (iH fun _=>gU (.inr au) (fun i11 y12 _ _=>dm au au (di iR iR)) (fun y12 _=>aT)))) (fun Ai _=>aT)) (fun V_ aIP=>aX (h.2.2.1) (dB fun v19 aHu=>jG iR (fun _=>iH fun _=>gU (.inr au) (fun i16 y17 _ _=>dm au au (aX ((h.2.1 _ (getD_mem (d:=kC) au))) (di iR iR))) (fun y17 _=>aX qcl (aX qcl (aT)))))))))))))
def asu:aU Z:=E1 [aor,acf,adQ,uG,axh,Vd] [jS 6 (bP (fun sl=>[s0 43]) (l1 cI)),jS 12 (bP (fun sl=>[s0 54]) (l1 cI)),jS 19 (bP (fun sl=>[s0 71]) (l1 cI)),jS 22 (bP (fun sl=>[s0 80]) (l1 cI)),jS 32 (bP (fun sl=>[s0 100]) (l1 cI)),jS 100011 (bP (fun sl=>[]) l0),jS 100018 (bP (fun sl=>[]) l0),jS 100028 (bP (fun sl=>[]) l0)] (aj (bn cStr) (aj (aF bC) (aj (bn uT) (aj (bn qg) (a1 (bn cI)))))) (shr [.slot 0 true (nn 10), s0 1] (az gW (l1 cI))) [] func6 2 (fun a=>art a.1 a.2.1 a.2.2.1 a.2.2.2.1 a.2.2.2.2) (fun a=>Xw a.2.1 a.2.2.1 a.2.2.2.1) fun a h=>ayi a.1 a.2.1 a.2.2.1 a.2.2.2.1 a.2.2.2.2 h
def few (x:iP):Pg Bool:=.br (decide ((↑x.1.Messages.length:Int)<=8)) (.br (decide ((↑x.1.Enums.length:Int)<=8)) (.br (decide ((↑x.1.dW.length:Int)<=8)) (.br (decide ((↑x.H.length:Int)<=8)) (.ret (decide ((↑x.L.length:Int)<=8))) (.ret false)) (.ret false)) (.ret false)) (.ret false)
def aGf (x:iP):=(few x).val
def aF4:aU Z:=E0 [] [] (a1 (aF pX)) (R1 aG) [] func4 1 few
def abX (l:List dY):Pg Bool:=.br (decide (40 < (↑l.length:Int))) (.ret false) (.each true tX l mD (fun i1 a3 (y2:Unit)=> .ix i1 l.length (.br (decide (3000 < (↑(List.length a3.Data):Int))) (.ret (.inr false)) (.ix i1 l.length (.br (decide (40 < (↑a3.H.eY.length:Int))) (.ret (.inr false)) (.ix i1 l.length (.br (decide (a3.Now < 0)) (.ret (.inr false)) (.ix i1 l.length (.br (decide (1099511627776 < a3.Now)) (.ret (.inr false)) (rl ()))))))))) (fun i1 (y2:Unit)=> .ret true) ())
def akp (l:List dY):=(abX l).val
def aom:aU Z:=E0 [] [jS 4 (bP (fun sl=>[s0 3]) (l1 cI))] (a1 (bn qF)) (R1 aG) [] func5 1 abX
theorem avt {name:Str}{s:ay}{hs:List cO}{l:List iY}{most:Int}(h:(ai0 name s hs l most).2=0):(ai0 name s hs l most).1=Server.mk name s hs l [] [] most false/\o_ s=true/\1<=most/\∀y∈hs,(fD s y.Method).2=0:=by
 have k:VP (art name s hs l most) (fun r=>r.2=0->r.1=Server.mk name s hs l [] [] most false/\o_ s=true/\1<=most/\∀j,j < hs.length->(fD s (hs.getD j kC).Method).2=0):=by
  unfold art;have no:∀(c:Int) {p:Prop},c≠0->(c=0->p):=fun c _ h e=>absurd e h
  refine eP (fun _=>aS (no 8 lY)) fun _=>fC (eP (fun _=>aS (no 1 lY)) fun hc=>eP (fun _=>aS (no 1 lY)) fun hm=>eP (fun _=>aS (no 1 lY)) fun _=>jI (fun _=>True) ?_ fun _ _=>jI (fun _=>∀j,j < hs.length->(fD s (hs.getD j kC).Method).2=0) ?_ fun _ hf=>jI (fun _=>True) ?_ fun _ _=>fC (oM fun v19 hv=>eP (fun e=>aS (no v19 (bne_iff_ne.1 e))) fun _=>oZ (kE (fun _ _=>True) trivial (fun k y hk _=>nJ (fC (eP (fun _=>aS (no 12 lY)) fun _=>aS trivial))) fun y _=>fC (fC (aS fun _=>⟨rfl,by simpa using hc,by have:=Qcf hm;omega,hf⟩)))))
  ·exact oZ (kE (fun _ _=>True) trivial (fun k y hk _=>nJ (eP (fun _=>aS (no 1 lY)) fun _=>aS trivial)) fun y _=>aS trivial)
  ·refine oZ (kE (fun k _=>∀j,j < k->(fD s (hs.getD j kC).Method).2=0) (fun j hj=>absurd hj au) (fun k y hk hI=>nJ (fC (eP (fun _=>aS (no 10 lY)) fun e=>aS fun j hj=> ?_))) fun y hI=>aS hI);rcases Qde j k with hlt | hge
   ·exact hI j hlt
   ·rw[show j=k by omega];simpa using e
  ·exact oZ (kE (fun _ _=>True) trivial (fun k y hk _=>nJ (fC (oZ (kE (fun _ _=>True) trivial (fun k y hk _=>nJ (eP (fun _=>aS (no 9 lY)) fun _=>aS trivial)) fun y _=>aS trivial)))) fun y _=>aS trivial)
 obtain⟨k1,k2,k3,k4⟩:=k h;refine⟨k1,k2,k3,fun y hy=> ?_⟩;obtain⟨j,hj,e⟩:=E_ (d:=kC) hy;rw[<-e];exact k4 j hj
def acZ (a:dY):Prop:=a.Data.length<=3000/\a.H.eY.length<=40/\0<=a.Now/\a.Now<=1099511627776
theorem avs {l:List dY}(h:akp l=true):l.length<=40/\∀a∈l,acZ a:=by
 have k:VP (abX l) (fun r=>r=true->l.length<=40/\∀j,j < l.length->acZ (l.getD j mD)):=by
  unfold abX;have no:∀{p:Prop},(false=true->p):=fun e=>by cases e
  refine eP (fun _=>aS no) fun h0=>kE (fun k _=>∀j,j < k->acZ (l.getD j mD)) (fun j hj=>absurd hj au) (fun k y hk hI=>nJ (eP (fun _=>aS no) fun h1=>nJ (eP (fun _=>aS no) fun h2=>nJ (eP (fun _=>aS no) fun h3=>nJ (eP (fun _=>aS no) fun h4=>aS fun j hj=> ?_))))) fun y hI=>aS fun _=>⟨by have:=Qcf h0;omega,hI⟩;have h1:=Qcf h1;have h2:=Qcf h2;have h3:=Qcf h3;have h4:=Qcf h4;rcases Qde j k with hlt | hge
  ·exact hI j hlt
  ·rw[show j=k by omega];exact⟨by omega,by omega,by omega,by omega⟩
 obtain⟨k1,k2⟩:=k h;refine⟨k1,fun a ha=> ?_⟩;obtain⟨j,hj,e⟩:=E_ (d:=mD) ha;rw[<-e];exact k2 j hj
theorem aCU {x:iP}(hf:aGf x=true):x.1.Messages.length<=8/\x.1.Enums.length<=8/\x.1.dW.length<=8/\x.H.length<=8/\x.L.length<=8:=by
 have k:VP (few x) (fun r=>r=true->x.1.Messages.length<=8/\x.1.Enums.length<=8/\x.1.dW.length<=8/\x.H.length<=8/\x.L.length<=8):=by
  unfold few;have no:∀{p:Prop},(false=true->p):=fun e=>by cases e
  refine eP (fun h1=>eP (fun h2=>eP (fun h3=>eP (fun h4=>aS fun h5=> ?_) fun _=>aS no) fun _=>aS no) fun _=>aS no) fun _=>aS no;have h1:=Cj h1;have h2:=Cj h2;have h3:=Cj h3;have h4:=Cj h4;have h5:=Cj h5;omega
 exact k hf
def aHS (s:Server)(c i:Int)(r:Server):Prop:=(ji s c i < 0/\r=s)\/∃v:Nat,v < s.Tasks.length/\ji s c i=v/\r=Server.mk s.Name s.ay s.Handlers s.iq s.Traces (s.Tasks.take v++s.Tasks.drop (v+1)) s.Most s.mM
def aB2 (s:Server):Server:=Server.mk s.Name s.ay s.Handlers s.iq s.Traces s.Tasks s.Most true
theorem amD (s:Server):T_ s=aB2 s:=by
 unfold T_ abR aB2;simp only[aV]
def aET (s:Server)(a:dY)(r:Server×Status×List ig):Prop:=
 (a.Kind.tmod 7=0/\aGg s a.qB a.Id (r.1,r.2.1)/\r.2.2=[])\/((a.Kind.tmod 7=1\/a.Kind.tmod 7=2)/\stepT s a.qB a.Id r.1 (arp s a.Data)/\r.2.2=[])\/(a.Kind.tmod 7=3/\stepT s a.qB a.Id r.1 (axg s)/\r.2.2=[])\/
 (a.Kind.tmod 7=4/\aHS s a.qB a.Id r.1/\r.2.2=[])\/(a.Kind.tmod 7=5/\aDH s a.Now (r.1,r.2.2))\/((a.Kind.tmod 7≠0/\a.Kind.tmod 7≠4)/\r.1=aB2 s/\r.2.2=[])
def Zx (s:Server)(a:dY):Prop:=xY s/\(∀x∈s.Handlers,x.Method.length<=1048576)/\H8 s.iq/\s.iq.length<=100/\okT s.Traces/\a.H.eY.length<=40/\a.H.bG.length+a.H.Method.length<=4194304/\∀t∈s.Tasks,Wq t
def aiZ (s:Server)(a:dY):Pg (Server×Status×List ig):=.ob ((7:Int)≠0) (.br (a.Kind.tmod (7:Int)==0) (.ob (xY s/\ (∀(x:cO),x∈s.Handlers->List.length x.Method<=1048576)/\ H8 s.iq/\s.iq.length<=100/\okT s.Traces/\a.H.eY.length<=40/\List.length a.H.bG+List.length a.H.Method<=4194304) (.lt (atS s a.Now a.qB a.Id a.H a.Shape) fun(v2:Server×Status)=> .ret (v2.1,v2.2,[]))) (.cut (fun(y1:Bool)=> .br y1 (.ob (xY s) (.ret (ahf s a.qB a.Id a.Data,Status.mk 0 [],[]))) (.br (a.Kind.tmod (7:Int)==3) (.ob (xY s) (.ret (aBC s a.Now a.qB a.Id,Status.mk 0 [],[]))) (.br (a.Kind.tmod (7:Int)==4) (.ob (xY s) (.ret (alB s a.qB a.Id,Status.mk 0 [],[]))) (.br (a.Kind.tmod (7:Int)==5) (.ob (adw s/\s.Tasks.length<=1048576/\∀(t:ig),t∈s.Tasks->Wq t) (.lt (axY s a.Now) fun(v3:Server×List ig)=> .ret (v3.1,Status.mk 0 [],v3.2))) (.ret (T_ s,Status.mk 0 [],[])))))) (.br (a.Kind.tmod (7:Int)==1) (rl (a.Kind.tmod (7:Int)==1)) (rl (a.Kind.tmod (7:Int)==2)))))
def aBH (s:Server)(a:dY):=(aiZ s a).val
theorem YS (s:Server)(a:dY)(h:Zx s a):jP (aiZ s a) (fun r=>aET s a r):=
 by
 obtain⟨a0,a1,a2,a3,a4,a5,a6,a7⟩:=h;unfold aiZ;refine ak lY (dO (fun e=>ak ⟨a0,a1,a2,a3,a4,a5,a6⟩ (aC fun v2 hv2=>ah (.inl ⟨e,?_,rfl⟩))) (fun e0=>dh (fun y=>y=true->(a.Kind.tmod 7=1\/a.Kind.tmod 7=2)) (dR (fun _=>ah fun h=> .inl (eq_of_beq h)) (fun _=>ah fun h=> .inr (eq_of_beq h))) (fun y hy=>dR (fun hb=>ak a0 (ah (.inr (.inl ⟨hy hb,(F7 s a.qB a.Id a.Data a0).2,rfl⟩))))
  (fun hb=>dO (fun e3=>ak a0 (ah (.inr (.inr (.inl ⟨e3,(Ya s a.Now a.qB a.Id a0).2,rfl⟩))))) (fun _=>dO (fun e4=>ak a0 (ah (.inr (.inr (.inr (.inl ⟨e4,(Iq s a.qB a.Id a0).2,rfl⟩)))))) (fun e4=>dO (fun e5=>ak ⟨⟨a0.1,a0.2.1,a1,by omega⟩,a0.2.2.1,a7⟩ (aC fun v3 hv3=>ah (.inr (.inr (.inr (.inr (.inl ⟨e5,?_⟩))))))) (fun _=>ah (.inr (.inr (.inr (.inr (.inr ⟨⟨e0,e4⟩,amD s,rfl⟩))))))))))))
 ·rw[hv2];exact(Oz s a.Now a.qB a.Id a.H a.Shape ⟨a0,a1,a2,a3,a4,a5,a6⟩).2
 ·rw[hv3];exact(Vb s a.Now ⟨⟨a0.1,a0.2.1,a1,by omega⟩,a0.2.2.1,a7⟩).2
def auR:aU Z:=E1 [ana,aeX,ayz,ahS,atq,al5] [jS 100007 (bP (fun sl=>[s0 33]) (l1 aG))] (aj (aF gW) (a1 (aF vT))) (shr [.slot 0 true (nn 10), .slot 1 true [none,none], s0 2] (az gW (az jy (l1 zV)))) [] func8 3 (u2 aiZ) (fun a=>Zx a.1 a.2) fun a h=>(YS a.1 a.2 h).1
theorem axz {s:ay}{v:bG}(h:Yu s v=[]){i:Nat}(hi:i < v.Methods.length):1<=(v.Methods.getD i jv).Shape/\(v.Methods.getD i jv).Shape<=4:=by
 have k:VP (aqr s v) (fun r=>r=[]->∀i,i < v.Methods.length->1<=(v.Methods.getD i jv).Shape/\(v.Methods.getD i jv).Shape<=4):=by
  unfold aqr;refine fC (fC (oM fun v4 _=>fC (oZ (kE (fun n y=>y.out=[]->∀j,j < n->1<=(v.Methods.getD j jv).Shape/\(v.Methods.getD j jv).Shape<=4) (fun _ j hj=>absurd hj au) (fun k y hk hI=> ?_) (fun y hI=>fC (aS fun h=>hI (show(ax.mk y.Ih (-1) y.out).out=[]from Es h)))))));have fin:y.out=[]->(1<=(v.Methods.getD k jv).Shape/\(v.Methods.getD k jv).Shape<=4)->∀j,j < k+1->1<=(v.Methods.getD j jv).Shape/\(v.Methods.getD j jv).Shape<=4:=fun h0 h1 j hj=>by
   rcases Qde j k with hlt | hge
   ·exact hI h0 j hlt
   ·rw[show j=k by omega];exact h1
  repeat' first
   | refine fC ?_
   | refine nJ ?_
   | refine oM fun _ hv=> ?_
   | refine eP (fun hc=> ?_) (fun hc=> ?_)
   | refine aS fun h=> ?_
  all_goals (subst_vars;have k1:=iL (Es h))
  all_goals first
   | exact absurd k1.1 lY
   | exact fin (iL (iL (iL k1.2).2).2).2 ⟨Cj (by assumption),Cj k1.1⟩
 exact k h i hi
theorem as4 {s:ay}(h:Ul s=[]){v:bG}(hv:v∈s.dW):Yu s v=[]:=by
 have k:VP (af6 s) (fun r=>r=[]->∀i,i < s.dW.length->Yu s (s.dW.getD i mf)=[]):=by
  unfold af6;refine fC (oM fun v20 _=>jI (fun _=>True) ?_ fun y7 _=>jI (fun _=>True) (fC (aS trivial)) fun y8 _=>fC (jI (fun _=>True) ?_ fun y12 _=>jI (fun _=>True) ?_ fun y16 _=> ?_))
  ·repeat' first
    | exact aS trivial
    | refine fC ?_
    | refine oM fun _ _=> ?_
    | refine jI (fun _=>True) ?_ fun _ _=> ?_
  ·exact oZ (kE (fun _ _=>True) trivial (fun k y hk hI=>nJ (fC (oM fun v hv=>fC (aS trivial)))) (fun y hI=>aS trivial))
  ·exact oZ (kE (fun _ _=>True) trivial (fun k y hk hI=>nJ (fC (oM fun v hv=>fC (aS trivial)))) (fun y hI=>aS trivial))
  ·refine oZ (kE (fun n y=>y.out=[]->∀i,i < n->Yu s (s.dW.getD i mf)=[]) (fun _ i hi=>absurd hi au) (fun k y hk hI=>nJ (fC (oM fun v23 hv=>fC (aS fun h=> ?_)))) (fun y hI=>aS hI));intro i hi;obtain⟨e1,e2⟩:=Qdc.1 h;rcases Qde i k with hlt | hge
   ·exact hI e1 i hlt
   ·rw[show i=k by omega,<-hv];exact e2
 obtain⟨i,hi,e⟩:=E_ (d:=mf) hv;rw[<-e];exact k h i hi
theorem am8 {s:ay}(h:o_ s=true){v:bG}(hv:v∈s.dW){m:dG}(hm:m∈v.Methods):1<=m.Shape/\m.Shape<=4:=by
 have e:Ul s=[]:=by
  unfold o_ aaB at h;simp only[dK,dE,kN,aV]at h;cases hc:Ul s with
  | nil=>rfl
  | cons a l=>rw[hc]at h;simp at h;omega
 obtain⟨i,hi,e2⟩:=E_ (d:=jv) hm;rw[<-e2];exact axz (as4 e hv) hi
theorem aAs {l:List bG}{n:Str}(h:(ayr l n).2=true):(ayr l n).1∈l:=by
 have k:VP (fsS l n) (fun r=>r.2=true->r.1∈l):=by
  unfold fsS;exact oZ (kE (fun _ _=>True) trivial (fun k y hk _=>nJ (eP (fun _=>aS fun _=>getD_mem hk) fun _=>aS trivial)) fun y _=>aS fun e=>by cases e)
 exact k h
theorem aAO {l:List dG}{n:Str}(h:(aBY l n).2=true):(aBY l n).1∈l:=by
 have k:VP (fsW l n) (fun r=>r.2=true->r.1∈l):=by
  unfold fsW;exact oZ (kE (fun _ _=>True) trivial (fun k y hk _=>nJ (eP (fun _=>aS fun _=>getD_mem hk) fun _=>aS trivial)) fun y _=>aS fun e=>by cases e)
 exact k h
theorem agn {s:ay}{p:Str}(hv:o_ s=true)(h:(fD s p).2=0):1<=(fD s p).1.Shape/\(fD s p).1.Shape<=4:=by
 have d:VP (JQ s p) (fun r=>r.2=true->1<=r.1.Shape/\r.1.Shape<=4):=by
  unfold JQ;refine fC (oM fun v1 _=>eP (fun _=>aS fun e=>by cases e) fun _=>oM fun v2 h2=>eP (fun _=>aS fun e=>by cases e) fun hb=>aS fun e=> ?_);have e2:Lj s v1.1=ayr s.dW v1.1:=rfl;rw[h2,e2]at hb e⊢;exact am8 hv (aAs (by simpa using hb)) (aAO e)
 have k:VP (XQ s p) (fun r=>r.2=0->1<=r.1.Shape/\r.1.Shape<=4):=by
  unfold XQ;have no:∀(c:Int) {p:Prop},c≠0->(c=0->p):=fun c _ h e=>absurd e h
  refine fC (oM fun v1 _=>eP (fun _=>aS (no 2 lY)) fun _=>fC (eP (fun _=>aS (no 2 lY)) fun _=>eP (fun _=>aS (no 2 lY)) fun _=>fC (oM fun v2 h2=>eP (fun _=>aS (no 10 lY)) fun hb=>aS fun _=> ?_)));show 1<=v2.1.Shape/\v2.1.Shape<=4
  rw[h2]at hb⊢;exact d (show(Ju s p).2=true by simpa using hb)
 exact k h
theorem counts_of {n:Int}(h:1<=n/\n<=4):((kZ n).2=false->(jV n).2.2=(1,1))/\((kZ n).2=true->(jV n).2.2=(0,-1)):=by
 obtain rfl | rfl | rfl | rfl:n=1\/n=2\/n=3\/n=4:=by omega
 ·exact⟨fun _=>rfl,fun e=>absurd (show false=true from e) lY⟩
 ·exact⟨fun e=>absurd (show true=false from e) lY,fun _=>rfl⟩
 ·exact⟨fun _=>rfl,fun e=>absurd (show false=true from e) lY⟩
 ·exact⟨fun e=>absurd (show true=false from e) lY,fun _=>rfl⟩
theorem agF {s:Server}{p:Str}(h:(jH s p).2=true):(jH s p).1∈s.Handlers/\(jH s p).1.Method=p:=by
 have k:VP (ug s p) (fun r=>r.2=true->r.1∈s.Handlers/\r.1.Method=p):=by
  unfold ug;exact oZ (kE (fun _ _=>True) trivial (fun k y hk _=>nJ (eP (fun e=>aS fun _=>⟨getD_mem hk,eq_of_beq e⟩) fun _=>aS trivial)) fun y _=>aS fun e=>by cases e)
 exact k h
theorem ag7 {s s':Server}(h:s.Handlers=s'.Handlers)(p:Str):jH s p=jH s' p:=by unfold jH ug;rw[h]
def DW (s:Server)(t:ig):Prop:=t.dP=[]/\(t.nS=true->t.Status.Code≠0)/\(0<=moT s t->(t.In.length:Int)<=moT s t)/\(t.Ready≠ -1->leT s t<=(t.In.length:Int))/\(jH s t.Method).2=true
theorem ao9 {s s':Server}{t:ig}(h1:s'.ay=s.ay)(h2:s'.Handlers=s.Handlers)(h:DW s t):DW s' t:=by
 unfold DW leT moT at*;rw[h1,ag7 h2];exact h
theorem BF {s:Server}{t t':ig}(hs:adb t t')(hI:t'.In.length=t.In.length\/(t'.In.length=t.In.length+1/\(0<=moT s t->(t.In.length:Int) < moT s t)))(hA:t'.dP=t.dP)(hE:t'.nS=true->t'.Status.Code≠0)(hR:t'.Ready≠ -1->t.Ready≠ -1\/leT s t<=(t.In.length:Int))(h:DW s t):DW s t':=by
 obtain⟨h1,h2,h3,h4,h5⟩:=h;have e1:moT s t'=moT s t:=by unfold moT;rw[hs.2.2.1]
 have e2:leT s t'=leT s t:=by unfold leT;rw[hs.2.2.1]
 refine⟨hA.trans h1,hE,fun h0=> ?_,fun h0=> ?_,by rw[hs.2.2.1];exact h5⟩
 ·rw[e1]at h0⊢;have:=h3 h0;rcases hI with e | ⟨e,k⟩
  ·omega
  ·have:=k h0;omega
 ·rw[e2];have:leT s t<=(t.In.length:Int):=(hR h0).elim h4 id;rcases hI with e | ⟨e,_⟩<;>omega
def ake (s:ay)(t:ig):Prop:=(t.Status.Code≠0->t.dP.length=0)/\(0<=(jV (fD s t.Method).1.Shape).2.1->(t.In.length:Int)<=(jV (fD s t.Method).1.Shape).2.1)/\(0<=(jV (fD s t.Method).1.Shape).2.2.2->(t.dP.length:Int)<=(jV (fD s t.Method).1.Shape).2.2.2)/\(t.Status.Code=0->(jV (fD s t.Method).1.Shape).1<=(t.In.length:Int)/\(jV (fD s t.Method).1.Shape).2.2.1<=(t.dP.length:Int))
theorem aob {s:Server}{t t':ig}(hv:o_ s.ay=true)(hm:∀y∈s.Handlers,(fD s.ay y.Method).2=0)(h:DW s t)(ho:outT s t t'):ake s.ay t'/\(fD s.ay t'.Method).2=0:=by
 obtain⟨h1,h2,h3,h4,h5⟩:=h;obtain⟨⟨_,_,eM,eI,_⟩,ho⟩:=ho;obtain⟨k1,k2⟩:=agF h5;have hf:(fD s.ay t.Method).2=0:=by rw[<-k2];exact hm _ k1
 obtain⟨c1,c2⟩:=counts_of (agn hv hf);have b3:∀l:Int,l=0->0<=(jV (fD s.ay t.Method).1.Shape).2.2.2->l<=(jV (fD s.ay t.Method).1.Shape).2.2.2:=fun l e h=>by omega
 unfold ake;rw[eM,eI];refine⟨?_,hf⟩;have no:t'.dP=t.dP->t'.dP.length=0:=fun e=>by rw[e,h1];rfl
 have bad:t'.Status.Code≠0->t'.dP.length=0->(t'.Status.Code≠0->t'.dP.length=0)/\(0<=moT s t->(t.In.length:Int)<=moT s t)/\(0<=(jV (fD s.ay t.Method).1.Shape).2.2.2->(t'.dP.length:Int)<=(jV (fD s.ay t.Method).1.Shape).2.2.2)/\(t'.Status.Code=0->leT s t<=(t.In.length:Int)/\(jV (fD s.ay t.Method).1.Shape).2.2.1<=(t'.dP.length:Int)):=fun hc ha=>⟨fun _=>ha,h3,b3 _ au,fun e=>absurd e hc⟩
 rcases ho with⟨o1,o2⟩ | ⟨o1,o2,o3⟩ | ⟨o1,o2,o3⟩
 ·exact bad o1 (no o2)
 ·exact bad (by rw[o1];exact h2 o3) (no o2)
 ·obtain⟨a1,a2⟩:=o3;have a1:t'.Status.Code≠0->t'.dP=[]:=a1;by_cases hc:t'.Status.Code=0
  ·have a2:=a2 hc;rw[k2]at a2;cases hs:(kZ (fD s.ay t.Method).1.Shape).2 with
   | false=>
    have e:=c1 hs;have a3:t'.dP.length=1:=a2 hs;rw[e];exact⟨fun h=>absurd hc h,h3,fun _=>by rw[a3];decide,fun _=>⟨h4 o2,by rw[a3];decide⟩⟩
   | true=>
    have e:=c2 hs;rw[e];exact⟨fun h=>absurd hc h,h3,fun h=>absurd h lY,fun _=>⟨h4 o2,Int.natCast_nonneg _⟩⟩
  ·exact bad hc (by rw[a1 hc];rfl)
def okD (x:iP):Prop:=((∀m∈x.1.Messages,okM m)/\(∀e∈x.1.Enums,okE e)/\∀v∈x.1.dW,adR v)/\ZT x.1/\(∀y∈x.H,y.Method.length<=1048576)/\H8 x.L
def aDB (l:List dY):Prop:=∀a∈l,a.H.bG.length+a.H.Method.length<=4194304
def NQ (k:Nat)(t:ig):Prop:=t.Method.length<=1048576/\(t.In.length<=k/\∀d∈t.In,d.length<=3000)/\(t.Ready= -1\/(0<=t.Ready/\t.Ready<=1099511627776))
def abh (x:iP)(k:Nat)(s:Server):Prop:=(s.ay=x.1/\s.Handlers=x.H/\s.iq=x.L)/\Dj k s.Traces/\s.Tasks.length<=k/\(∀t∈s.Tasks,NQ k t/\DW s t)/\(s.Tasks.length:Int)<=s.Most/\s.Most=x.Most
theorem atb {k m:Nat}{t:ig}(h:NQ k t)(hk:k<=m):NQ m t:=⟨h.1,⟨Ak h.2.1.1 hk,h.2.1.2⟩,h.2.2⟩
theorem alH {k m:Nat}{t:List Trace}(h:Dj k t)(hk:k<=m):Dj m t:=⟨Ak h.1 hk,fun x hx=>Ak (h.2 x hx) hk⟩
theorem aDb {A:Type}{f:A->Nat}{c:Nat}{l:List A}(h:∀x∈l,f x<=c):jF f l<=c*l.length:=by
 induction l with
 | nil=>exact uN _
 | cons a l ih=>
  have h1:=h a oJ;have h2:=ih fun x hx=>h x (by simp[hx])
  simp only[jF,xH,Nat.mul_add,Qdb];omega
theorem awd {k:Nat}{t:ig}(h:NQ k t)(hk:k<=41):Wq t:=by
 refine⟨h.1,?_⟩;have q:jF (fun d:Str=>2+8*d.length) t.In<=24002*t.In.length:=aDb fun d hd=>by have:=h.2.1.2 d hd;omega
 have:=h.2.1.1;unfold Gq;omega
def aDI (x:iP):Prop:=x.1.Messages.length<=8/\x.1.Enums.length<=8/\x.1.dW.length<=8/\x.H.length<=8/\x.L.length<=8
theorem azA {x:iP}(h:okD x)(hf:aDI x):okS x.1:=⟨by have:=hf.1;omega,by have:=hf.2.1;omega,by have:=hf.2.2.1;omega,h.1.1,h.1.2.1,h.1.2.2⟩
theorem apa {x:iP}{k:Nat}{s:Server}{a:dY}(hx:okD x)(hf:aDI x)(h:abh x k s)(hk:k<=41)(ha:acZ a)(hh:a.H.bG.length+a.H.Method.length<=4194304):Zx s a:=by
 obtain⟨⟨e1,e2,e3⟩,h2,h3,h4,_⟩:=h;have a1:okS s.ay:=by rw[e1];exact azA hx hf
 have a2:ZT s.ay:=by rw[e1];exact hx.2.1
 refine⟨⟨a1,a2,by omega,fun t ht=> ?_⟩,by rw[e2];exact hx.2.2.1,by rw[e3];exact hx.2.2.2,by rw[e3];have:=hf.2.2.2.2;omega,⟨by have:=h2.1;omega,fun y hy=>by have:=h2.2 y hy;omega⟩,ha.2.1,hh,fun t ht=>awd (h4 t ht).1 hk⟩;have q:=(h4 t ht).1;have:=q.2.1.1;exact⟨q.1,by omega⟩
theorem ap8 {A B:Type}{R:A->B->Prop}{l:List A}{m:List B}(h:Pm R l m):∀b∈m,∃a∈l,R a b:=by
 induction h with
 | nil=>exact fun b hb=>by cases hb
 | @cons a b l m h1 _ ih=>
  intro z hz;rcases yR.1 hz with rfl | hz
  ·exact⟨a,List.mem_cons_self,h1⟩
  ·obtain⟨y,hy,k⟩:=ih z hz;exact⟨y,Qbz _ hy,k⟩
theorem axr {x:iP}{k:Nat}{s:Server}{a:dY}{r:Server×Status×List ig}(hv:o_ x.1=true)(hm:∀y∈x.H,(fD x.1 y.Method).2=0)(h:abh x k s)(ha:acZ a)(hT:aET s a r):abh x (k+1) r.1/\(∀t∈r.2.2,ake x.1 t/\t.Method.length<=1048576)/\r.2.2.length<=k:=by
 obtain⟨⟨q1,q2,q3⟩,p2,p3,p4,p5,p6⟩:=h;have p2':=alH p2 (Nat.le_succ k);have mk:∀{s':Server},s'.ay=s.ay->s'.Handlers=s.Handlers->s'.iq=s.iq->s'.Most=s.Most->Dj (k+1) s'.Traces->s'.Tasks.length<=k+1->(s'.Tasks.length:Int)<=s.Most->(∀t∈s'.Tasks,NQ (k+1) t/\DW s t)->abh x (k+1) s':=fun e1 e2 e3 e4 h5 h6 h7 h8=>⟨⟨by rw[e1];exact q1,by rw[e2];exact q2,by rw[e3];exact q3⟩,h5,h6,fun t ht=>⟨(h8 t ht).1,ao9 e1 e2 (h8 t ht).2⟩,by rw[e4];exact h7,by rw[e4];exact p6⟩
 have old:∀t∈s.Tasks,NQ (k+1) t/\DW s t:=fun t ht=>⟨atb (p4 t ht).1 (Nat.le_succ k),(p4 t ht).2⟩
 have no:r.2.2=[]->(∀t∈r.2.2,ake x.1 t/\t.Method.length<=1048576)/\r.2.2.length<=k:=fun e=>⟨fun t ht=>(by rw[e]at ht;cases ht),by rw[e];exact uN _⟩
 have same:abh x (k+1) s:=mk rfl rfl rfl rfl p2' au p5 old;have sub:∀{l:List ig} {tr dr},Dj (k+1) tr->l.Sublist s.Tasks->abh x (k+1) (Server.mk s.Name s.ay s.Handlers s.iq tr l s.Most dr):=fun{l tr dr} ht hl=>mk rfl rfl rfl rfl ht (by have:=hl.length_le;show l.length<=_;omega) (by have:=hl.length_le;show(l.length:Int)<=_;omega) fun t ht=>old t (hl.subset ht)
 have set:∀{c i:Int} {P:ig->ig->Prop},stepT s c i r.1 P->(∀t t',adb t t'->P t t'->NQ k t->DW s t->NQ (k+1) t'/\DW s t')->abh x (k+1) r.1:=fun{c i P} hs hP=>by
  rcases hs with⟨_,e⟩ | ⟨v,hv,e,t',⟨h1,h2⟩,e2⟩
  ·rw[e];exact same
  ·rw[e2];refine mk rfl rfl rfl rfl p2' (by show(s.Tasks.set v t').length<=k+1;rw[Qbq];omega) (by show((s.Tasks.set v t').length:Int)<=_;rw[Qbq];exact p5) fun t ht=> ?_;rcases Qcn ht with k1 | k1
   ·exact old t k1
   ·rw[k1];obtain⟨w1,w2⟩:=p4 _ (getD_mem (d:=bM) hv);exact hP _ _ h1 h2 w1 w2
 rcases hT with⟨e,hb,hd⟩ | ⟨e,hs,hd⟩ | ⟨e,hs,hd⟩ | ⟨e,hn,hd⟩ | ⟨e,hs⟩ | ⟨e,hs,hd⟩
 ·refine⟨?_,no hd⟩;rcases hb with⟨b1,b2⟩ | ⟨b1,b2,b3,b4,tr,t,b5,b6,b7⟩
  ·have b2:r.1=s:=b2;rw[b2];exact same
  ·have b7:r.1=_:=b7;obtain⟨t1,t2,t3,t4,t5,t6,t7,t8⟩:=b6;rw[b7];refine mk rfl rfl rfl rfl (b5 k p2) (by show(s.Tasks++[t]).length<=k+1;rw[pz];exact Nat.succ_le_succ p3) (by show((s.Tasks++[t]).length:Int)<=s.Most;rw[pz,Qcp];omega) fun y hy=> ?_;have hy:y∈s.Tasks++[t]:=hy;rcases tY.1 hy with hy | hy
   ·exact old y hy
   ·rw[Aj.1 hy];exact⟨⟨t7,⟨by rw[t3];exact uN _,fun d hd=>by rw[t3]at hd;cases hd⟩, .inl t4⟩,t6,fun e=>(by rw[t5]at e;cases e),fun h=>by rw[t3];exact h,fun h=>absurd t4 h,t8⟩
 ·refine⟨set hs fun t t' hs hm z zS=> ?_,no hd⟩;obtain⟨⟨m1,m2⟩,m3⟩:=hm;obtain⟨z1,⟨z2,z3⟩,z4⟩:=z;rcases m3 with⟨m3,m4,m5⟩ | ⟨m3,m4,m5,m6⟩
  ·exact⟨⟨by rw[hs.2.2.1];exact z1,by rw[m3];exact⟨by omega,z3⟩,by rw[m1];exact z4⟩,BF hs (.inl (by rw[m3])) m2 (fun _=>m5) (fun h=> .inl (by rw[m1]at h;exact h)) zS⟩
  ·refine⟨⟨by rw[hs.2.2.1];exact z1,?_,by rw[m1];exact z4⟩,BF hs (.inr ⟨by rw[m3,pz];rfl,m6⟩) m2 (fun h=>by rw[m4]at h;rw[m5];exact zS.2.1 h) (fun h=> .inl (by rw[m1]at h;exact h)) zS⟩;rw[m3];refine⟨by rw[pz];exact Nat.succ_le_succ z2,fun d hd=> ?_⟩;rcases tY.1 hd with hd | hd
   ·exact z3 d hd
   ·rw[Aj.1 hd];exact ha.1
 ·refine⟨set hs fun t t' hs hm z zS=> ?_,no hd⟩;obtain⟨⟨m1,m2⟩,m3⟩:=hm;obtain⟨z1,⟨z2,z3⟩,z4⟩:=z;rcases m3 with⟨m3,m4,m5⟩ | ⟨m3,m4,m5,m6⟩
  ·exact⟨⟨by rw[hs.2.2.1];exact z1,by rw[m1];exact⟨by omega,z3⟩,by rw[m4];exact z4⟩,BF hs (.inl (by rw[m1])) m2 (fun _=>m5) (fun h=> .inl (by rw[m4]at h;exact h)) zS⟩
  ·exact⟨⟨by rw[hs.2.2.1];exact z1,by rw[m1];exact⟨by omega,z3⟩, .inr m5⟩,BF hs (.inl (by rw[m1])) m2 (fun h=>by rw[m3]at h;rw[m4];exact zS.2.1 h) (fun _=> .inr m6) zS⟩
 ·refine⟨?_,no hd⟩;rcases hn with⟨n1,n2⟩ | ⟨v,n1,n2,n3⟩
  ·rw[n2];exact same
  ·rw[n3];refine sub p2' ?_;conv=>rhs;rw[<-Qcq v s.Tasks]
   refine List.Sublist.append (Qdz _) ?_;rw[<-List.drop_drop];exact List.drop_sublist _ _
 ·obtain⟨h1,h2⟩:=hs;have h1:r.1=azs s _:=h1;refine⟨by rw[h1];exact sub p2' List.filter_sublist,fun t ht=> ?_,by rw[adx h2];exact Ak (Qca _ _) p3⟩;obtain⟨y,hy,ho⟩:=ap8 h2 t ht;obtain⟨z1,z2⟩:=p4 y (Qbx.1 hy).1;have w:=(aob (by rw[q1];exact hv) (by rw[q1,q2];exact hm) z2 ho).1;rw[q1]at w;exact⟨w,by rw[ho.1.2.2.1];exact z1.1⟩
 ·refine⟨by rw[hs];exact sub p2' (Qdz _),no hd⟩
def JP (s:Str)(c:Int):Pg (List UInt8×List UInt8×Bool):=.each true tX s 0 (fun i1 a3 (y2:Unit)=> .ix i1 (List.length s) (.br ((↑a3.toNat:Int)==c) (.ob ((0:Int)<=0/\0<=i1/\i1<=(↑(List.length s):Int)) (.lt (dD .i64 (i1+1)) fun(v4:Int)=> .ob (0<=v4/\v4<=(↑(List.length s):Int)/\(↑(List.length s):Int)<=(↑(List.length s):Int)) (.ret (.inr (List.take i1.toNat s,List.drop v4.toNat (List.take (List.length s) s),true))))) (rl ()))) (fun i1 (y2:Unit)=> .ret (s,[],false)) ()
def Na (s:Str)(c:Int):=(JP s c).val
theorem acP (s:Str)(c:Int):Is (JP s c):=
 gU (.inl rfl) (fun i1 y2 _ _=>dm au au (lh (fun _=>aX au (pK fun v4 hv4 _=>aX au (aT))) iR)) (fun y2 _=>aT)
def agY:aU Z:=E0 [] [jS 2 (bP (fun sl=>[s0 7]) (l1 cI))] (aj (bn cStr) (a1 (bn (gz .u8)))) (shr [s0 0, s0 1, s0 2] (az cStr (az cStr (l1 aG)))) [] func59 3 (u2 JP) fun a=>acP a.1 a.2
def AO (s:ay)(name:Str):Pg (bG×Bool):=.each true tX s.dW mf (fun i1 a3 (y2:Unit)=> .ix i1 s.dW.length (.br (a3.Name==name) (.ix i1 s.dW.length (.ret (.inr (a3,true)))) (rl ()))) (fun i1 (y2:Unit)=> .ret (bG.mk [] [] [],false)) ()
def yI (s:ay)(name:Str):=(AO s name).val
theorem WW (s:ay)(name:Str):Is (AO s name):=
 gU (.inl rfl) (fun i1 y2 _ _=>dm au au (di (fun _=>dm au au (aT)) iR)) (fun y2 _=>aT)
def Zu:aU Z:=E0 [] [jS 2 (bP (fun sl=>[s0 6]) (l1 cI))] (aj (aF bC) (a1 (bn cStr))) (shr [.slot 0 true (nn 3), s0 1] (az pV (l1 aG))) [] func60 2 (u2 AO) fun a=>WW a.1 a.2
def ES (s:ay)(path:Str):Pg (dG×Bool):=.lt (Na path 47) fun(v4:Str×Str×Bool)=> .br (!v4.2.2) (.ret (dG.mk [] [] [] 0 [],false)) (.lt (yI s v4.1) fun(v5:bG×Bool)=> .each true tX v5.1.Methods jv (fun i1 a3 (y2:Unit)=> .ix i1 v5.1.Methods.length (.br (a3.Name==v4.2.1) (.ix i1 v5.1.Methods.length (.ret (.inr (a3,true)))) (rl ()))) (fun i1 (y2:Unit)=> .ret (dG.mk [] [] [] 0 [],false)) ())
def Hg (s:ay)(path:Str):=(ES s path).val
theorem ZH (s:ay)(path:Str):Is (ES s path):=
 dB fun v4 hv4=>di iR (fun _=>dB fun v5 hv5=>gU (.inl rfl) (fun i1 y2 _ _=>dm au au (di (fun _=>dm au au (aT)) iR)) (fun y2 _=>aT))
def acy:aU Z:=E0 [agY,Zu] [jS 6 (bP (fun sl=>[s0 11]) (l1 cI))] (aj (aF bC) (a1 (bn cStr))) (shr [.slot 0 true (nn 5), s0 1] (az mX (l1 aG))) [] func27 2 (u2 ES) fun a=>ZH a.1 a.2
theorem N8 {A:Type}(p:A->Bool)(b:A):∀(l:List A) (k:Nat),mQ p (l++[b]) k=bif decide (0<=mQ p l k)then mQ p l k else bif p b then((k+l.length:Nat):Int)else -1
 | [],k=>by
  simp only[Qcc,mQ,A7,MB];cases p b<;>rfl
 | a::l,k=>by
  rw[Qbu];unfold mQ;cases p a with
  | true=>simp
  | false=>
   simp only[nR];rw[N8 p b l (k+1)];rw[show k+1+l.length=k+(a::l).length by simp only[xH];omega]
theorem aku {c:UInt8}{s:List UInt8}{R:Type}{step:Int×Int->(Int×Int)⊕R}{F:Int->R}(hs:∀x:Int×Int,-1<=x.2->x.2 < s.length->step x=bif decide (0<=x.2)then .inl (bif s.getD x.2.toNat 0==c then x.2 else x.1,x.2 - 1)else .inr (F x.1))(r0:R):∀(n i:Nat) (at_:Int),i<=s.length->i < n->V8 step r0 n (at_,(i:Int) - 1)=F (bif decide (0<=fG (fun x=>x==c) (s.take i))then fG (fun x=>x==c) (s.take i)else at_)
 | 0,i,at_,_,h=>by omega
 | n+1,0,at_,hi,h=>by
  unfold V8;rw[hs _ (by show(-1:Int)<=((0:Nat):Int) - 1;omega) (by show((0:Nat):Int) - 1 < _;omega)];rfl
 | n+1,i+1,at_,hi,h=>by
  unfold V8;have e1:(((i+1:Nat):Int) - 1)=(i:Int):=by omega
  rw[hs _ (by show(-1:Int)<=((i+1:Nat):Int) - 1;omega) (by show((i+1:Nat):Int) - 1 < _;omega)];simp only[e1,zk];rw[qW (show(0:Int)<=(i:Int) by omega)];simp only[wB];rw[aku hs r0 n i _ au au];congr 1;have ht:s.take (i+1)=s.take i++[s.getD i 0]:=by
   rw[Qd1];congr 1;simp[List.getD,show i < s.length by omega]
  rw[ht];unfold fG;rw[N8];have hl:((0+(s.take i).length:Nat):Int)=(i:Int):=by rw[uP];omega
  rw[hl];by_cases h0:0<=mQ (fun x=>x==c) (s.take i) 0
  ·simp only[qW h0,wB]
  ·simp only[qo h0,nR];cases s.getD i 0==c with
   | true=>rw[wB,wB,qW (show(0:Int)<=(i:Int) by omega)];rfl
   | false=>rfl
theorem asB (c d:UInt8):((c.toNat:Int)==(d.toNat:Int))=(c==d):=by
 apply Qb5.2;simp only[Qc6];constructor
 ·intro h;exact UInt8.toNat_inj.1 au
 ·rintro rfl;rfl
theorem aky {path:Str}{R:Type}{F:Int->R}(h:path.length<=1048576){step:Int×Int->(Int×Int)⊕R}(hs:∀x:Int×Int,step x=bif decide (0<=x.2)then bif ((path.getD x.2.toNat 0).toNat:Int)==47 then .inl (x.2,dD .i64 (x.2 - 1))else .inl (x.1,dD .i64 (x.2 - 1))else .inr (F x.1))(r0:R):V8 step r0 (path.length+1) (-1,dD .i64 ((path.length:Int) - 1))=F (fG (fun x=>x==47) path):=by
 rw[fO (k:= .i64) (show yZ .i64 ((path.length:Int) - 1) by simp only[yZ];omega)];rw[aku (c:=47) (F:=F) (fun x h1 h2=> ?_) r0 (path.length+1) path.length (-1) (lU _) (Qcy _),DT]
 ·have:=(lF (fun(x:UInt8)=>x==47) path).2;by_cases h0:0<=fG (fun x=>x==47) path
  ·rw[qW h0];rfl
  ·rw[qo h0,show fG (fun x=>x==47) path= -1 by omega];rfl
 ·rw[hs];by_cases h0:0<=x.2
  ·rw[qW h0,fO (k:= .i64) (show yZ .i64 (x.2 - 1) by simp only[yZ];omega),show(((path.getD x.2.toNat 0).toNat:Int)==47)=(path.getD x.2.toNat 0==47)from asB _ 47];cases path.getD x.2.toNat 0==47<;>rfl
  ·rw[qo h0];rfl
instance:Inhabited dG:=⟨⟨[],[],[],0,[]⟩⟩
def QO (s:ay)(path:Str):Pg (dG×Int):=.cut (fun(y4:Int)=> .br (decide (y4 < 0)) (.ret (dG.mk [] [] [] 0 [],2)) (.ob ((0:Int)<=0/\0<=y4/\y4<=(↑(List.length path):Int)) (.br (!QJ (List.take y4.toNat path)) (.ret (dG.mk [] [] [] 0 [],2)) (.lt (dD .i64 (y4+1)) fun(v5:Int)=> .ob (0<=v5/\v5<=(↑(List.length path):Int)/\(↑(List.length path):Int)<=(↑(List.length path):Int)) (.br (!vY (List.drop v5.toNat (List.take (List.length path) path))) (.ret (dG.mk [] [] [] 0 [],2)) (.lt (Hg s path) fun(v6:dG×Bool)=> .br (!v6.2) (.ret (dG.mk [] [] [] 0 [],10)) (.ret (v6.1,0)))))))) (.lt (dD .i64 ((↑(List.length path):Int) - 1)) fun(v7:Int)=> .wh (path.length+1) default (fun(x3:Int×Int)=> .br (decide (0<=x3.2)) (.ix x3.2 (List.length path) (.lt (dD .i64 (x3.2 - 1)) fun(v8:Int)=> .br ((↑(List.getD path x3.2.toNat 0).toNat:Int)==47) (rl (x3.2,v8)) (rl (x3.1,v8)))) (.ret (.inr (.inl x3.1)))) ((-1),v7))
def RV (s:ay)(path:Str):=(QO s path).val
theorem ahE (s:ay)(path:Str)(h:path.length<=1048576):Is (QO s path):=
 by
 have hl:=lF (fun(x:UInt8)=>x==47) path;refine oQ (pK fun v7 hv7 h7=>Gg (fun(x:Int×Int)=> -1<=x.2/\x.2 < path.length) (fun(x:Int×Int)=>(x.2+1).toNat) ⟨by show -1<=v7;omega,by show v7 < _;omega⟩ (by show(v7+1).toNat < _;omega) (fun x hx=>⟨dV (fun _=>dm au au (dB fun v8 Py=>lh iR iR)) iR,fun x' hx'=> ?_⟩)) (fun y4 hy4=> ?_)
 ·revert hx';simp only[iV,bH,dE,aV,Qb6,Qbj];have w:0<=x.2->dD .i64 (x.2 - 1)=x.2 - 1:=fun _=>fO (k:= .i64) zO
  (repeat' split)<;>intro e<;>cases e<;>simp only[w (by assumption)]<;>omega
 ·simp only[dE,Bv,bH,iV,aV]at hy4;have e4:y4=fG (fun x=>x==47) path:=by
   rw[aky (F:=fun(y:Int)=>(Sum.inl y:Int⊕(dG×Int))) h]at hy4
   ·exact(Sum.inl.inj hy4).symm
   ·exact fun x=>rfl
  refine dV iR (fun _=>aX ⟨by omega,by omega,by omega⟩ (di iR (fun _=>pK fun v5 hv5 h5=>aX ⟨by omega,by omega,by omega⟩ (di iR (fun _=>dB fun v6 hv6=>di iR iR)))))
def amO:aU Z:=E1 [arq,adY,acy] [jS 3 (bP (fun sl=>[s0 6, s0 7]) (az cI (l1 cI))),jS 100007 (bP (fun sl=>[s0 6]) (l1 cI))] (aj (aF bC) (a1 (bn cStr))) (shr [.slot 0 true (nn 5), s0 1] (az mX (l1 cI))) [] func9 2 (u2 QO) (fun a=>a.2.length<=1048576) fun a h=>ahE a.1 a.2 h
def H7 (shape:Int):Pg (Bool×Bool):=.br (shape==3) (.br (shape==2) (.ret (true,true)) (.ret (true,shape==4))) (.br (shape==2) (.ret (shape==4,true)) (.ret (shape==4,shape==4)))
def aej (shape:Int):=(H7 shape).val
theorem WL (shape:Int):Is (H7 shape):=
 lh (fun _=>lh iR iR) (fun _=>lh iR iR)
def Z9:aU Z:=E0 [] [] (a1 (bn cI)) (shr [s0 0, s0 1] (az aG (l1 aG))) [] func29 2 H7 fun a=>WL a
def aqJ (shape:Int):Pg Bool:=.br (decide (1<=shape)) (.ret (decide (shape<=4))) (.ret false)
def aBW (shape:Int):=(aqJ shape).val
theorem ar1 (shape:Int):Is (aqJ shape):=
 dV iR iR
def ax6:aU Z:=E0 [] [] (a1 (bn cI)) (R1 aG) [] func28 1 aqJ fun a=>ar1 a
def Nb (shape:Int):Pg (Int×Int×Int×Int):=.br (!aBW shape) (.ret (0,0,0,0)) (.lt (aej shape) fun(v2:Bool×Bool)=> .cut (fun(y1:Int×Int)=> .br v2.2 (.ret (y1.1,y1.2,0,(-1))) (.ret (y1.1,y1.2,1,1))) (.br v2.1 (rl (0,(-1))) (rl (1,1))))
def Vj (shape:Int):=(Nb shape).val
theorem Zb (shape:Int):Is (Nb shape):=
 di iR (fun _=>dB fun v2 hv2=>oQ (di iR iR) (fun y1 hy1=>di iR iR))
def aeB:aU Z:=E0 [ax6,Z9] [jS 100007 (bP (fun sl=>[s0 8, s0 9]) (az cI (l1 cI)))] (a1 (bn cI)) (shr [s0 0, s0 1, s0 2, s0 3] (az cI (az cI (az cI (l1 cI))))) [] func10 4 Nb fun a=>Zb a
theorem ZF {A R:Type}{b:Nat->A->Unit->Unit⊕R}{f:Nat->Unit->R}{p:A->Bool}{g:Nat->R}{z:R}:∀(l:List A) (k:Nat),(∀j a,l[j]? =some a->b (k+j) a ()=bif p a then .inr (g (k+j))else .inl ())->f (k+l.length) ()=z->BA b f l k ()=bif decide (0<=mQ p l k)then g (mQ p l k).toNat else z
 | [],k,_,hf=>hf
 | a::l,k,hb,hf=>by
  have h0:=hb 0 a rfl;unfold BA mQ;rw[MB]at h0;rw[h0];cases p a with
  | true=>simp
  | false=>exact ZF l (k+1) (fun j a h=>by rw[Qc4,Qdm 1 j];exact hb (j+1) a h) (by rw[Qc4,Qdm 1];exact hf)
theorem as2 (s:Str)(h:s.length<=1048576):Na s 47=DV s:=by
 rw[Zp s h];unfold Na JP;simp only[qJ,iV,bH,dK,dE,aV];refine ZF (p:=fun x=>x==47) (g:=fun k=>(s.take k,s.drop (k+1),true)) s 0 (fun j a hj=> ?_) rfl;have hl:j < s.length:=(Qaz.1 hj).1;simp only[BZ,zk,DT];rw[show(((a.toNat:Int))==47)=(a==47)from asB a 47,pU au,zk]
theorem afN (s:ay)(n:Str):yI s n=bif decide (0<=fG (fun(x:bG)=>x.Name==n) s.dW)then(s.dW.getD (fG (fun(x:bG)=>x.Name==n) s.dW).toNat mf,true)else(⟨[],[],[]⟩,false):=by
 unfold yI AO;simp only[qJ,iV,bH,aV];refine ZF (p:=fun(x:bG)=>x.Name==n) (g:=fun k=>(s.dW.getD k mf,true)) s.dW 0 (fun j a hj=> ?_) rfl;have e:s.dW.getD (0+j) mf=a:=by rw[BZ];simp[List.getD,hj]
 rw[e]
theorem am6 (s:ay)(path:Str)(h:path.length<=1048576):Ju s path=Hg s path:=by
 unfold Ju JQ Hg ES;simp only[dK,dE,bH,aV,qJ,iV,as2 path h];cases(DV path).2.2 with
 | false=>rfl
 | true=>
  simp only[Qby,nR];have hs:Lj s (DV path).1=yI s (DV path).1:=rfl;rw[hs,afN];by_cases h0:0<=fG (fun(x:bG)=>x.Name==(DV path).1) s.dW
  ·rw[qW h0];rfl
  ·rw[qo h0];rfl
theorem av4 (s:ay)(path:Str)(h:path.length<=1048576):fD s path=RV s path:=by
 have hl:=lF (fun(x:UInt8)=>x==47) path;unfold fD XQ RV QO;simp only[mr,dK,dE,bH,aV,Bv,iV];rw[aky (F:=fun(y:Int)=>(Sum.inl y:Int⊕(dG×Int))) h (fun x=>rfl),oO,Zp path h,am6 s path h];by_cases h0:0<=fG (fun x=>x==47) path
 ·have w:dD .i64 (fG (fun x=>x==47) path+1)=fG (fun x=>x==47) path+1:=fO (k:= .i64) zO;rw[qW h0,qo (show ¬fG (fun x=>x==47) path < 0 by omega),w,show(fG (fun x=>x==47) path+1).toNat=(fG (fun x=>x==47) path).toNat+1 by omega,DT];simp only[wB,nR,aoo,ack,LY,Qby]
 ·rw[qo h0,qW (show fG (fun x=>x==47) path < 0 by omega)];rfl
theorem anu (n:Int):jV n=Vj n:=rfl
def awake:Pg Bool:=.ob (anP (ay.mk [bg.mk [77] [aJ.mk 1 [120] 3 0 (sW.mk 4 []) [] false (af.mk 0 0 [] [] [] [] []) []] [] [] []] [] [bG.mk [83] [dG.mk [71,101,116] [77] [77] 1 []] []]) (cO.mk [83,47,71,101,116] 1 0 0) [[8,5]]) (.ob (Xw (ay.mk [bg.mk [77] [aJ.mk 1 [120] 3 0 (sW.mk 4 []) [] false (af.mk 0 0 [] [] [] [] []) []] [] [] []] [] [bG.mk [83] [dG.mk [71,101,116] [77] [77] 1 []] []]) [cO.mk [83,47,71,101,116] 1 0 0] []) (.ix 0 (zW (ay.mk [bg.mk [77] [aJ.mk 1 [120] 3 0 (sW.mk 4 []) [] false (af.mk 0 0 [] [] [] [] []) []] [] [] []] [] [bG.mk [83] [dG.mk [71,101,116] [77] [77] 1 []] []]) (cO.mk [83,47,71,101,116] 1 0 0) [[8,5]]).1.length (.ret (axL (ai0 [97] (ay.mk [bg.mk [77] [aJ.mk 1 [120] 3 0 (sW.mk 4 []) [] false (af.mk 0 0 [] [] [] [] []) []] [] [] []] [] [bG.mk [83] [dG.mk [71,101,116] [77] [77] 1 []] []]) [cO.mk [83,47,71,101,116] 1 0 0] [] 5).1))))
theorem arf:Is (awake):=
 aX (by simp[anP,okS,okM,okE,adR,ZT,Gq,jF]) (aX (by simp[Xw,okS,okM,okE,adR,H8]) (dm lY (Cj dS) aT))
def avP:aU Z:=E2 [asu,SN,aqu] [] a0 (R1 aG) [] func7 1 (fun a=>awake) (fun a=>none) (fun a=>true) fun a h=>⟨arf,dS⟩
def law (x:iP)(l:List dY):Pg Bool:=.br (!aGf x) (.ret true) (.br (!akp l) (.ret true) (.ob (Xw x.1 x.H x.L) (.lt (ai0 [97] x.1 x.H x.L x.Most) fun(v7:Server×Int)=> .br (v7.2 !=0) (.ret true) (.each true qw l mD (fun i1 a6 (y2:Server)=> .ix i1 l.length (.ob (Zx y2 a6) (.lt (aBH y2 a6) fun(v8:Server×Status×List ig)=> aL v8.1.Tasks (.br (decide (x.Most < (↑v8.1.Tasks.length:Int))) (.ret (.inr false)) (.each true tX v8.2.2 bM (fun i3 a5 (y4:Unit)=> .ix i3 v8.2.2.length (.ob (List.length a5.Method<=1048576) (.ix i3 v8.2.2.length (.ix i3 v8.2.2.length (aL a5.In (aL a5.dP (.ix i3 v8.2.2.length (.lt (Vj (RV x.1 a5.Method).1.Shape) fun(v9:Int×Int×Int×Int)=> .br (a5.Status.Code !=0) (.br (decide (0 < (↑a5.dP.length:Int))) (.ret (.inr (.inr false))) (.br (decide (0<=v9.2.1)) (.br (decide (v9.2.1 < (↑a5.In.length:Int))) (.ret (.inr (.inr false))) (.br (decide (0<=v9.2.2.2)) (.br (decide (v9.2.2.2 < (↑a5.dP.length:Int))) (.ret (.inr (.inr false))) (.ix i3 v8.2.2.length (.br (a5.Status.Code==0) (.br (decide ((↑a5.In.length:Int) < v9.1)) (.ret (.inr (.inr false))) (.br (decide ((↑a5.dP.length:Int) < v9.2.2.1)) (.ret (.inr (.inr false))) (rl ()))) (rl ())))) (.ix i3 v8.2.2.length (.br (a5.Status.Code==0) (.br (decide ((↑a5.In.length:Int) < v9.1)) (.ret (.inr (.inr false))) (.br (decide ((↑a5.dP.length:Int) < v9.2.2.1)) (.ret (.inr (.inr false))) (rl ()))) (rl ()))))) (.br (decide (0<=v9.2.2.2)) (.br (decide (v9.2.2.2 < (↑a5.dP.length:Int))) (.ret (.inr (.inr false))) (.ix i3 v8.2.2.length (.br (a5.Status.Code==0) (.br (decide ((↑a5.In.length:Int) < v9.1)) (.ret (.inr (.inr false))) (.br (decide ((↑a5.dP.length:Int) < v9.2.2.1)) (.ret (.inr (.inr false))) (rl ()))) (rl ())))) (.ix i3 v8.2.2.length (.br (a5.Status.Code==0) (.br (decide ((↑a5.In.length:Int) < v9.1)) (.ret (.inr (.inr false))) (.br (decide ((↑a5.dP.length:Int) < v9.2.2.1)) (.ret (.inr (.inr false))) (rl ()))) (rl ())))))) (.br (decide (0<=v9.2.1)) (.br (decide (v9.2.1 < (↑a5.In.length:Int))) (.ret (.inr (.inr false))) (.br (decide (0<=v9.2.2.2)) (.br (decide (v9.2.2.2 < (↑a5.dP.length:Int))) (.ret (.inr (.inr false))) (.ix i3 v8.2.2.length (.br (a5.Status.Code==0) (.br (decide ((↑a5.In.length:Int) < v9.1)) (.ret (.inr (.inr false))) (.br (decide ((↑a5.dP.length:Int) < v9.2.2.1)) (.ret (.inr (.inr false))) (rl ()))) (rl ())))) (.ix i3 v8.2.2.length (.br (a5.Status.Code==0) (.br (decide ((↑a5.In.length:Int) < v9.1)) (.ret (.inr (.inr false))) (.br (decide ((↑a5.dP.length:Int) < v9.2.2.1)) (.ret (.inr (.inr false))) (rl ()))) (rl ()))))) (.br (decide (0<=v9.2.2.2)) (.br (decide (v9.2.2.2 < (↑a5.dP.length:Int))) (.ret (.inr (.inr false))) (.ix i3 v8.2.2.length (.br (a5.Status.Code==0) (.br (decide ((↑a5.In.length:Int) < v9.1)) (.ret (.inr (.inr false))) (.br (decide ((↑a5.dP.length:Int) < v9.2.2.1)) (.ret (.inr (.inr false))) (rl ()))) (rl ())))) (.ix i3 v8.2.2.length (.br (a5.Status.Code==0) (.br (decide ((↑a5.In.length:Int) < v9.1)) (.ret (.inr (.inr false))) (.br (decide ((↑a5.dP.length:Int) < v9.2.2.1)) (.ret (.inr (.inr false))) (rl ()))) (rl ()))))))))))))) (fun i3 (y4:Unit)=> rl v8.1) ()))))) (fun i1 (y2:Server)=> .ret true) v7.1))))
theorem ai9 (x:iP)(l:List dY)(h:okD x/\aDB l):jP (law x l) (fun r=>r=true):=
 by
 obtain⟨hx,hl⟩:=h;unfold law;refine dR (fun _=>ah rfl) fun hf=>dR (fun _=>ah rfl) fun ha=> ?_;have hf:aDI x:=aCU (by simpa using hf);obtain⟨hl1,hl2⟩:=avs (l:=l) (by simpa using ha);have hn:Xw x.1 x.H x.L:=⟨azA hx hf,hx.2.2.1,hx.2.2.2,by have:=hf.2.2.2.1;omega,by have:=hf.2.2.2.2;omega⟩;refine ak hn (aC fun v0 hv0=>dw (fun _=>ah rfl) fun h0=> ?_);obtain⟨e0,hc,hm1,hmf⟩:=avt (name:=[97]) (s:=x.1) (hs:=x.H) (l:=x.L) (most:=x.Most) (by rw[<-hv0];exact h0);rw[<-hv0]at e0;have i0:abh x 0 v0.1:=by
  rw[e0];exact⟨⟨rfl,rfl,rfl⟩,⟨lU _,fun y hy=>by cases hy⟩,lU _,fun y hy=>(by cases hy),by show((0:Nat):Int)<=x.Most;omega,rfl⟩
 refine df (fun k y=>abh x k y) i0 au (fun k y hk hI=> ?_) (fun y hI=>ah rfl);have hmem:=getD_mem (d:=mD) hk;generalize l.getD k mD=a at*;have a1:=hl2 _ hmem;have q:=apa hx hf hI au a1 (hl _ hmem);refine bi au au (ak q (aC fun v hv=> ?_));obtain⟨m1,m2,m3⟩:=axr (r:=v) hc hmf hI a1 (by rw[hv];exact(YS y a q).2);have m5:=m1.2.2.2.2;refine bZ (bV (fun hlt=>absurd hlt au) (fun _=> ?_));refine df (fun _ _=>True) trivial au (fun j u hj _=> ?_) (fun u _=>ah m1);obtain⟨⟨d1,d2,d3,d4⟩,d6⟩:=m2 _ (getD_mem (d:=bM) hj);generalize v.2.2.getD j bM=t at*;refine bi au au (ak d6 (bi au au (bi au au (bZ (bZ (bi au au (aC fun v9 hv9=> ?_)))))));have e9:jV (fD x.1 t.Method).1.Shape=v9:=by rw[hv9,anu,av4 x.1 _ d6]
 rw[e9]at d2 d3 d4;repeat' first
  | exact ah trivial
  | refine bi au au ?_
  | refine dw (fun _=> ?_) (fun _=> ?_)
  | refine dO (fun _=> ?_) (fun _=> ?_)
  | refine bV (fun _=> ?_) (fun _=> ?_)
 all_goals (exfalso;omega)
def aHe:aU Z:=E2 [aF4,aom,asu,avP,auR,amO,aeB] [jS 7 (bP (fun sl=>[s0 7, .cells (pid (sl 5)) (nn 10)]) (az cI (l1 gW))),jS 14 (bP (fun sl=>[s0 9]) (l1 cI))] (aj (aF pX) (a1 (bn qF))) (R1 aG) [] func3 1 (u2 law) (fun a=>some (okD a.1/\aDB a.2)) (fun a=>true) fun a h=>⟨(ai9 a.1 a.2 h).1,(fun x l h=>(ai9 x l h).2) a.1 a.2 h⟩
end
end Go.Proofs.YtihakigfhcankaaGreatDoor

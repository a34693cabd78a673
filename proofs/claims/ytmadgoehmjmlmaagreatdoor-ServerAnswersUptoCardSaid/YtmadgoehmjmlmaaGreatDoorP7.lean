/- Server: servers are made; the law's functions. -/
import Derived.Test.YtmadgoehmjmlmaaGreatDoorP6
namespace Go.Proofs.YtmadgoehmjmlmaaGreatDoor
noncomputable section
open Go.RowKit Go.Vc
open Tryz
set_option linter.unusedVariables false
set_option linter.unusedSimpArgs false
set_option maxRecDepth 100000
def YP (s:ay)(hs:List di)(l:List iZ):Prop:=okS s/\(∀x∈hs,x.Method.length<=1048576)/\IX l/\hs.length<=1048576/\l.length<=1048576
def asM (name:Str)(s:ay)(hs:List di)(l:List iZ)(most:Int):Pg (Server×Int):=.br (!axG name) (.ret (Server.mk [] (ay.mk [] [] []) [] [] [] [] 0 false,8)) (.ob (okS s) (.br (!Dj s) (.ret (Server.mk [] (ay.mk [] [] []) [] [] [] [] 0 false,1)) (.br (decide (most < 1)) (.ret (Server.mk [] (ay.mk [] [] []) [] [] [] [] 0 false,1)) (.br (decide (64 < most)) (.ret (Server.mk [] (ay.mk [] [] []) [] [] [] [] 0 false,1)) (.cut (fun(y4:Unit)=> .cut (fun(y8:Unit)=> .cut (fun(SH:Unit)=> .ob (IX l) (.lt (aCq l) fun(v19:Int)=> .br (v19 !=0) (.ret (Server.mk [] (ay.mk [] [] []) [] [] [] [] 0 false,v19)) (aL hs (.each false wB hs nT (fun i16 a18 (y17:Unit)=> .ix i16 hs.length (.ob (List.length a18.Method<=1048576) (.br (!ae7 s a18) (.ret (.inr (Server.mk [] (ay.mk [] [] []) [] [] [] [] 0 false,12))) (rl ())))) (fun i16 (y17:Unit)=> .ob (bQ (0+hs.length) 40) (.ob (bQ (0+l.length) 56) (.ret (Server.mk name s hs l [] [] most false,0)))) ())))) (aL hs (.each false wB hs nT (fun i9 a14 (yE:Unit)=> .ix i9 hs.length (.ob ((0:Int)<=0/\0<=i9/\i9<=(↑hs.length:Int)) (.as ((List.take i9.toNat hs).length<=9223372036854775807) (.each false wB (List.take i9.toNat hs) nT (fun i11 a13 (ZY:Unit)=> .ix i11 (List.take i9.toNat hs).length (.br (a14.Method==a13.Method) (.ret (.inr (.inr (.inr (Server.mk [] (ay.mk [] [] []) [] [] [] [] 0 false,9))))) (rl ()))) (fun i11 (ZY:Unit)=> rl ()) ())))) (fun i9 (yE:Unit)=> rl ()) ()))) (aL hs (.each false wB hs nT (fun i5 a7 (y6:Unit)=> .ix i5 hs.length (.ob (List.length a7.Method<=1048576) (.br ((mD s a7.Method).2 !=0) (.ret (.inr (.inr (Server.mk [] (ay.mk [] [] []) [] [] [] [] 0 false,10)))) (rl ())))) (fun i5 (y6:Unit)=> rl ()) ()))) (aL hs (.each false wB hs nT (fun i1 a3 (y2:Unit)=> .ix i1 hs.length (.br (!Rh a3) (.ret (.inr (.inr (Server.mk [] (ay.mk [] [] []) [] [] [] [] 0 false,1)))) (rl ()))) (fun i1 (y2:Unit)=> rl ()) ())))))))
def alA (name:Str)(s:ay)(hs:List di)(l:List iZ)(most:Int):=(asM name s hs l most).val
theorem axt (name:Str)(s:ay)(hs:List di)(l:List iZ)(most:Int)(h:YP s hs l):Is (asM name s hs l most):=
 dM iR (fun _=>aX (h.1) (dM iR (fun _=>gu iR (fun _=>gu iR (fun _=>qM (iL fun _=>iF (.inr au) (fun i1 y2 _ _=>dR au au (dM iR iR)) (fun y2 _=>aU)) (fun y4 hy4=>qM (iL fun _=>iF (.inr au) (fun i5 y6 _ _=>dR au au (aX ((h.2.1 _ (getD_mem (d:=nT) au))) (jQ iR iR))) (fun y6 _=>aU)) (fun y8 hy8=>qM (iL fun _=>iF (.inr au) (fun i9 yE _ _=>dR au au (aX au (iL fun _=>iF (.inr au) (fun i11 ZY _ _=>dR au au (dM iR iR)) (fun ZY _=>aU)))) (fun yE _=>aU)) (fun SH aKC=>aX (h.2.2.1) (dF fun v19 aoB=>jQ iR (fun _=>iL fun _=>iF (.inr au) (fun i16 y17 _ _=>dR au au (aX ((h.2.1 _ (getD_mem (d:=nT) au))) (dM iR iR))) (fun y17 _=>aX qck (aX qck (aU)))))))))))))
def avm:aS Z:=E1 [asw,adt,adF,u_,azx,TL] [jS 6 (bU (fun sl=>[s0 43]) (l1 cI)),jS 12 (bU (fun sl=>[s0 54]) (l1 cI)),jS 19 (bU (fun sl=>[s0 71]) (l1 cI)),jS 22 (bU (fun sl=>[s0 80]) (l1 cI)),jS 32 (bU (fun sl=>[s0 100]) (l1 cI)),jS 100011 (bU (fun sl=>[]) l0),jS 100018 (bU (fun sl=>[]) l0),jS 100028 (bU (fun sl=>[]) l0)] (aj (bu cStr) (aj (aF bI) (aj (bu vV) (aj (bu qJ) (a1 (bu cI)))))) (shr [.slot 0 true (nn 10), s0 1] (az fK (l1 cI))) [] func6 2 (fun a=>asM a.1 a.2.1 a.2.2.1 a.2.2.2.1 a.2.2.2.2) (fun a=>YP a.2.1 a.2.2.1 a.2.2.2.1) fun a h=>axt a.1 a.2.1 a.2.2.1 a.2.2.2.1 a.2.2.2.2 h
def few (x:dO):Pg Bool:=.br (decide ((↑x.1.Messages.length:Int)<=8)) (.br (decide ((↑x.1.Enums.length:Int)<=8)) (.br (decide ((↑x.1.jE.length:Int)<=8)) (.br (decide ((↑x.H.length:Int)<=8)) (.ret (decide ((↑x.L.length:Int)<=8))) (.ret false)) (.ret false)) (.ret false)) (.ret false)
def aGm (x:dO):=(few x).val
def aHC:aS Z:=E0 [] [] (a1 (aF qm)) (R1 aH) [] func4 1 few
def acO (l:List dQ):Pg Bool:=.br (decide (40 < (↑l.length:Int))) (.ret false) (.each true wB l mO (fun i1 a3 (y2:Unit)=> .ix i1 l.length (.br (decide (3000 < (↑(List.length a3.Data):Int))) (.ret (.inr false)) (.ix i1 l.length (.br (decide (40 < (↑a3.H.eQ.length:Int))) (.ret (.inr false)) (.ix i1 l.length (.br (decide (a3.Now < 0)) (.ret (.inr false)) (.ix i1 l.length (.br (decide (1099511627776 < a3.Now)) (.ret (.inr false)) (rl ()))))))))) (fun i1 (y2:Unit)=> .ret true) ())
def ajy (l:List dQ):=(acO l).val
def aoL:aS Z:=E0 [] [jS 4 (bU (fun sl=>[s0 3]) (l1 cI))] (a1 (bu qU)) (R1 aH) [] func5 1 acO
def jc (t:fU):Int×Int:=(t.kL,t.Id)
def opn (c:List bn):List (Int×Int):=(c.filter fun k=>k.open_).map fun k=>(k.conn,k.id)
theorem aa8 (a b:List bn):opn (a++b)=opn a++opn b:=by unfold opn;rw[Qbf,Qdi]
theorem A_ (a:bn)(l:List bn):opn (a::l)=bif a.open_ then(a.conn,a.id)::opn l else opn l:=by
 unfold opn;rw[Qca];cases a.open_<;>rfl
def adO (c i:Int)(k:bn):Prop:=k.conn=c/\k.id=i/\k.open_=true
theorem Yk {c i:Int}{d:bn}:∀(l:List bn) (j:Nat),j < l.length->(∀m,m < j->¬adO c i (l.getD m d))->adO c i (l.getD j d)->opn (l.set j (bn.mk (l.getD j d).conn (l.getD j d).id false))=(opn l).erase (c,i)/\(c,i)∈opn l
 | a::l,0,_,_,h=>by
  have h:adO c i a:=h;obtain⟨h1,h2,h3⟩:=h;have e:opn (a::l)=(c,i)::opn l:=by rw[A_,h3,Bo,h1,h2]
  refine⟨?_,by rw[e];exact List.mem_cons_self ..⟩;rw[e,List.erase_cons_head];show opn (bn.mk a.conn a.id false::l)=_
  rw[A_];rfl
 | a::l,j+1,hj,hm,h=>by
  obtain⟨i1,i2⟩:=Yk l j qb4 (fun m hm'=>by have:=hm (m+1) au;exact this) h;have h0:¬adO c i a:=hm 0 au;show opn (a::l.set j _)=_/\_
  rw[A_,A_];have e:(a::l).getD (j+1) d=l.getD j d:=rfl;rw[e,i1];cases ho:a.open_ with
  | false=>exact⟨rfl,i2⟩
  | true=>
   have hne:((a.conn,a.id)==(c,i))=false:=by
    rw[Qcc];intro e;injection e with e1 e2
    exact h0 ⟨e1,e2,ho⟩
   refine⟨?_,Qb3 _ i2⟩;rw[Bo,Bo,List.erase_cons,hne];rfl
theorem atx {c i:Int}{l:List bn}(h:∀k∈l,¬adO c i k):(c,i)∉opn l:=by
 intro hm;unfold opn at hm;obtain⟨k,hk,e⟩:=zI.1 hm;obtain⟨h1,h2⟩:=R_.1 hk;injection e with e1 e2
 exact h k h1 ⟨e1,e2,h2⟩
def ers (l ks:List (Int×Int)):List (Int×Int):=ks.foldl List.erase l
theorem auF (l ks:List (Int×Int))(k:Int×Int):ers l (ks++[k])=(ers l ks).erase k:=by unfold ers;rw[List.foldl_append];rfl
theorem Iq {l:List (Int×Int)}(hn:l.Nodup):∀ks,ers l ks=l.filter fun k=> !ks.contains k:=by
 intro ks;induction ks generalizing l with
 | nil=>exact(Qcw.2 fun a _=>rfl).symm
 | cons a ks ih=>
  show ers (l.erase a) ks=_
  rw[ih (hn.erase a),hn.erase_eq_filter,List.filter_filter];congr 1;funext k;rw[List.contains_cons];cases h1:k==a<;>cases h2:ks.contains k<;>simp[bne,h1]
theorem aw_ {l ks:List (Int×Int)}(hn:l.Nodup){k:Int×Int}:k∈ers l ks ↔ k∈l/\k∉ks:=by
 rw[Iq hn,R_];simp
theorem CB {A B:Type}{f:A->B}:∀{l:List A},(l.map f).Nodup->∀{x y:A},x∈l->y∈l->f x=f y->x=y
 | a::l,h,x,y,hx,hy,e=>by
  rw[DT,Qdj]at h;rcases xI.1 hx with e1 | k1<;>rcases xI.1 hy with e2 | k2
  ·rw[e1,e2]
  ·exact absurd (zI.2 ⟨y,k2,by rw[<-e,e1]⟩) h.1
  ·exact absurd (zI.2 ⟨x,k1,by rw[e,e2]⟩) h.1
  ·exact CB h.2 k1 k2 e
theorem aua {l:List fU}(p:fU->Bool)(hn:(l.map jc).Nodup):ers (l.map jc) ((l.filter p).map jc)=(l.filter fun t=> !p t).map jc:=by
 rw[Iq hn,List.filter_map];congr 1;refine List.filter_congr fun t ht=> ?_;show(!((l.filter p).map jc).contains (jc t))= !p t
 congr 1;rw[Qdg,List.contains_iff_mem];constructor
 ·intro h;obtain⟨t',h1,e⟩:=zI.1 h;obtain⟨h1,h2⟩:=R_.1 h1;rw[CB hn ht h1 e.symm];exact h2
 ·intro h;exact zI.2 ⟨t,R_.2 ⟨ht,h⟩,rfl⟩
theorem ayj {l:List (Int×Int)}(h:l.Nodup){k:Nat}{d:Int×Int}(hk:k < l.length):l.getD k d∉l.take k:=by
 have e:=take_snoc (d:=d) hk;have h2:(l.take (k+1)).Nodup:=h.sublist (Qc3 _ _);rw[e,Qe]at h2;intro hm;exact h2.2.2 _ hm _ (zD.2 rfl) rfl
theorem afN {l:List fU}{v:Nat}{t' d:fU}(h:jc t'=jc (l.getD v d)):(l.set v t').map jc=l.map jc:=by
 induction l generalizing v with
 | nil=>rfl
 | cons a l ih=>
  cases v with
  | zero=>show jc t'::l.map jc=_;rw[h];rfl
  | succ v=>show jc a::(l.set v t').map jc=_;rw[ih h];rfl
theorem awH {name:Str}{s:ay}{hs:List di}{l:List iZ}{most:Int}(h:(alA name s hs l most).2=0):(alA name s hs l most).1=Server.mk name s hs l [] [] most false:=by
 have k:VP (asM name s hs l most) (fun r=>r.2=0->r.1=Server.mk name s hs l [] [] most false):=by
  unfold asM;have no:∀(c:Int) {p:Prop},c≠0->(c=0->p):=fun c _ h e=>absurd e h
  refine gK (fun _=>bi (no 8 nG)) fun _=>jh (gK (fun _=>bi (no 1 nG)) fun _=>gK (fun _=>bi (no 1 nG)) fun _=>gK (fun _=>bi (no 1 nG)) fun _=>lq (fun _=>True) ?_ fun _ _=>lq (fun _=>True) ?_ fun _ _=>lq (fun _=>True) ?_ fun _ _=>jh (zt fun v19 hv=>gK (fun e=>bi (no v19 (bne_iff_ne.1 e))) fun _=>uz (oh (fun _ _=>True) trivial (fun k y hk _=>qV (jh (gK (fun _=>bi (no 12 nG)) fun _=>bi trivial))) fun y _=>jh (jh (bi fun _=>rfl)))))
  ·exact uz (oh (fun _ _=>True) trivial (fun k y hk _=>qV (gK (fun _=>bi (no 1 nG)) fun _=>bi trivial)) fun y _=>bi trivial)
  ·exact uz (oh (fun _ _=>True) trivial (fun k y hk _=>qV (jh (gK (fun _=>bi (no 10 nG)) fun _=>bi trivial))) fun y _=>bi trivial)
  ·exact uz (oh (fun _ _=>True) trivial (fun k y hk _=>qV (jh (uz (oh (fun _ _=>True) trivial (fun k y hk _=>qV (gK (fun _=>bi (no 9 nG)) fun _=>bi trivial)) fun y _=>bi trivial)))) fun y _=>bi trivial)
 exact k h
def afq (a:dQ):Prop:=a.Data.length<=3000/\a.H.eQ.length<=40/\0<=a.Now/\a.Now<=1099511627776
theorem awl {l:List dQ}(h:ajy l=true):l.length<=40/\∀a∈l,afq a:=by
 have k:VP (acO l) (fun r=>r=true->l.length<=40/\∀j,j < l.length->afq (l.getD j mO)):=by
  unfold acO;have no:∀{p:Prop},(false=true->p):=fun e=>by cases e
  refine gK (fun _=>bi no) fun h0=>oh (fun k _=>∀j,j < k->afq (l.getD j mO)) (fun j hj=>absurd hj au) (fun k y hk hI=>qV (gK (fun _=>bi no) fun h1=>qV (gK (fun _=>bi no) fun h2=>qV (gK (fun _=>bi no) fun h3=>qV (gK (fun _=>bi no) fun h4=>bi fun j hj=> ?_))))) fun y hI=>bi fun _=>⟨by have:=Qbz h0;omega,hI⟩;have h1:=Qbz h1;have h2:=Qbz h2;have h3:=Qbz h3;have h4:=Qbz h4;rcases Qdf j k with hlt | hge
  ·exact hI j hlt
  ·rw[show j=k by omega];exact⟨by omega,by omega,by omega,by omega⟩
 obtain⟨k1,k2⟩:=k h;refine⟨k1,fun a ha=> ?_⟩;obtain⟨j,hj,e⟩:=Df (d:=mO) ha;rw[<-e];exact k2 j hj
theorem aCp {x:dO}(hf:aGm x=true):x.1.Messages.length<=8/\x.1.Enums.length<=8/\x.1.jE.length<=8/\x.H.length<=8/\x.L.length<=8:=by
 have k:VP (few x) (fun r=>r=true->x.1.Messages.length<=8/\x.1.Enums.length<=8/\x.1.jE.length<=8/\x.H.length<=8/\x.L.length<=8):=by
  unfold few;have no:∀{p:Prop},(false=true->p):=fun e=>by cases e
  refine gK (fun h1=>gK (fun h2=>gK (fun h3=>gK (fun h4=>bi fun h5=> ?_) fun _=>bi no) fun _=>bi no) fun _=>bi no) fun _=>bi no;have h1:=DK h1;have h2:=DK h2;have h3:=DK h3;have h4:=DK h4;have h5:=DK h5;omega
 exact k hf
def clT (l:List bn)(c i:Int)(r:List bn×Bool):Prop:=(r.2=false/\r.1=l/\(c,i)∉opn l)\/(r.2=true/\(c,i)∈opn l/\opn r.1=(opn l).erase (c,i)/\r.1.length=l.length)
def aJx (s:Server)(c i:Int)(r:Server):Prop:=(fF s c i < 0/\r=s)\/∃v:Nat,v < s.Tasks.length/\fF s c i=v/\r=Server.mk s.Name s.ay s.Handlers s.iV s.Traces (s.Tasks.take v++s.Tasks.drop (v+1)) s.Most s.mX
def aDc (s:Server):Server:=Server.mk s.Name s.ay s.Handlers s.iV s.Traces s.Tasks s.Most true
theorem anY (s:Server):Uh s=aDc s:=by
 unfold Uh acj aDc;simp only[aV]
def aCZ (s:Server)(a:dQ)(r:Server×Status×List fU):Prop:=
 (a.Kind.tmod 7=0/\aFV s a.kL a.Id (r.1,r.2.1)/\r.2.2=[])\/((a.Kind.tmod 7=1\/a.Kind.tmod 7=2)/\stepT s a.kL a.Id r.1 (au0 a.Data)/\r.2.2=[])\/(a.Kind.tmod 7=3/\stepT s a.kL a.Id r.1 ar_/\r.2.2=[])\/
 (a.Kind.tmod 7=4/\aJx s a.kL a.Id r.1/\r.2.2=[])\/(a.Kind.tmod 7=5/\auQ s a.Now (r.1,r.2.2))\/((a.Kind.tmod 7≠0/\a.Kind.tmod 7≠4)/\r.1=aDc s/\r.2.2=[])
def abU (s:Server)(a:dQ):Prop:=wP s/\(∀x∈s.Handlers,x.Method.length<=1048576)/\IX s.iV/\s.iV.length<=100/\okT s.Traces/\a.H.eQ.length<=40/\a.H.cO.length+a.H.Method.length<=4194304/\∀t∈s.Tasks,Qr t
def KQ (conn:Int)(id:Int)(l:List bn):Pg (List bn×Bool):=.ob (bQ (0+l.length) 24) (.each true wB l bY (fun i1 a3 (y2:Unit)=> .ix i1 l.length (.ob (i1.toNat < l.length) (.br (a3.conn==conn) (.ix i1 l.length (.ob (i1.toNat < l.length) (.br (a3.id==id) (.ix i1 l.length (.ob (i1.toNat < l.length) (.br a3.open_ (.ix i1 l.length (.ob (i1.toNat < l.length) (.ret (.inr (l.set i1.toNat (bn.mk a3.conn a3.id false),true))))) (rl ())))) (rl ())))) (rl ())))) (fun i1 (y2:Unit)=> .ret (l,false)) ())
def OO (conn:Int)(id:Int)(l:List bn):=(KQ conn id l).val
theorem wV (conn:Int)(id:Int)(l:List bn)(h:l.length<=1048576):jF (KQ conn id l) (fun r=>clT l conn id r):=
 by
 unfold KQ;refine ak (b_ au au) (cZ (fun k _=>∀j,j < k->¬adO conn id (l.getD j bY)) (fun j hj=>absurd hj au) au (fun k y hk hI=> ?_) (fun y hI=>ah (.inl ⟨rfl,rfl,?_⟩)))
 ·have next:¬adO conn id (l.getD k bY)->∀j,j < k+1->¬adO conn id (l.getD j bY):=fun h2 j hj=>by
   rcases Qdf j k with hlt | hge
   ·exact hI j hlt
   ·rw[show j=k by omega];exact h2
  refine aZ au au (ak au (dI (fun e1=>aZ au au (ak au (dI (fun e2=>aZ au au (ak au (dH (fun e3=>aZ au au (ak au (ah ?_))) (fun e3=>ah (next fun m=> ?_))))) (fun e2=>ah (next fun m=>e2 m.2.1))))) (fun e1=>ah (next fun m=>e1 m.1))))
  ·obtain⟨q1,q2⟩:=Yk (d:=bY) l k hk (fun m hm=>hI m hm) ⟨e1,e2,e3⟩;exact .inr ⟨rfl,q2,q1,Qbm⟩
  ·have:=m.2.2;rw[e3]at this;cases this
 ·refine atx fun k hk hm=> ?_;obtain⟨j,hj,e⟩:=Df (d:=bY) hk;rw[<-e]at hm;exact hI j hj hm
def ah1:aS Z:=Ee [] [jS 3 (bU (fun sl=>[s0 9]) (l1 cI))] (aj (ni 0) (aj (bu cI) (a1 (bu cI)))) (b1 (iq 53 D.bn oZ)) (shr [.slot 0 false [some 53], s0 1] (az lG (l1 aH))) [] func9 2 (fun a=>KQ a.1.2.1 a.1.2.2 a.2) (fun a=>a.2.length<=1048576) fun a h=>(wV a.1.2.1 a.1.2.2 a.2 h).1
def aly (s:Server)(a:dQ):Pg (Server×Status×List fU):=.ob ((7:Int)≠0) (.br (a.Kind.tmod (7:Int)==0) (.ob (wP s/\ (∀(x:di),x∈s.Handlers->List.length x.Method<=1048576)/\ IX s.iV/\s.iV.length<=100/\okT s.Traces/\a.H.eQ.length<=40/\List.length a.H.cO+List.length a.H.Method<=4194304) (.lt (ar6 s a.Now a.kL a.Id a.H a.Shape) fun(v2:Server×Status)=> .ret (v2.1,v2.2,[]))) (.cut (fun(y1:Bool)=> .br y1 (.ob (wP s) (.ret (ahx s a.kL a.Id a.Data,Status.mk 0 [],[]))) (.br (a.Kind.tmod (7:Int)==3) (.ob (wP s) (.ret (apY s a.Now a.kL a.Id,Status.mk 0 [],[]))) (.br (a.Kind.tmod (7:Int)==4) (.ob (wP s) (.ret (amG s a.kL a.Id,Status.mk 0 [],[]))) (.br (a.Kind.tmod (7:Int)==5) (.ob (Ud s/\s.Tasks.length<=1048576/\∀(t:fU),t∈s.Tasks->Qr t) (.lt (ajO s a.Now) fun(v3:Server×List fU)=> .ret (v3.1,Status.mk 0 [],v3.2))) (.ret (Uh s,Status.mk 0 [],[])))))) (.br (a.Kind.tmod (7:Int)==1) (rl (a.Kind.tmod (7:Int)==1)) (rl (a.Kind.tmod (7:Int)==2)))))
def aBO (s:Server)(a:dQ):=(aly s a).val
theorem ZF (s:Server)(a:dQ)(h:abU s a):jF (aly s a) (fun r=>aCZ s a r):=
 by
 obtain⟨a0,a1,a2,a3,a4,a5,a6,a7⟩:=h;unfold aly;refine ak nG (dI (fun e=>ak ⟨a0,a1,a2,a3,a4,a5,a6⟩ (aC fun v2 hv2=>ah (.inl ⟨e,?_,rfl⟩))) (fun e0=>df (fun y=>y=true->(a.Kind.tmod 7=1\/a.Kind.tmod 7=2)) (dH (fun _=>ah fun h=> .inl (eq_of_beq h)) (fun _=>ah fun h=> .inr (eq_of_beq h))) (fun y hy=>dH (fun hb=>ak a0 (ah (.inr (.inl ⟨hy hb,(Ib s a.kL a.Id a.Data a0).2,rfl⟩))))
  (fun hb=>dI (fun e3=>ak a0 (ah (.inr (.inr (.inl ⟨e3,(N8 s a.Now a.kL a.Id a0).2,rfl⟩))))) (fun _=>dI (fun e4=>ak a0 (ah (.inr (.inr (.inr (.inl ⟨e4,(Ld s a.kL a.Id a0).2,rfl⟩)))))) (fun e4=>dI (fun e5=>ak ⟨⟨a0.1,a0.2.1,a1,by omega⟩,a0.2.2.1,a7⟩ (aC fun v3 hv3=>ah (.inr (.inr (.inr (.inr (.inl ⟨e5,?_⟩))))))) (fun _=>ah (.inr (.inr (.inr (.inr (.inr ⟨⟨e0,e4⟩,anY s,rfl⟩))))))))))))
 ·rw[hv2];exact(PI s a.Now a.kL a.Id a.H a.Shape ⟨a0,a1,a2,a3,a4,a5,a6⟩).2
 ·rw[hv3];exact(I9 s a.Now ⟨⟨a0.1,a0.2.1,a1,by omega⟩,a0.2.2.1,a7⟩).2
def axf:aS Z:=E1 [akV,ac_,anK,aeH,agx,amH] [jS 100007 (bU (fun sl=>[s0 33]) (l1 aH))] (aj (aF fK) (a1 (aF wS))) (shr [.slot 0 true (nn 10), .slot 1 true [none,none], s0 2] (az fK (az jC (l1 AX)))) [] func8 3 (u2 aly) (fun a=>abU a.1 a.2) fun a h=>(ZF a.1 a.2 h).1
def awake:Pg Bool:=.ob (anP (ay.mk [bg.mk [77] [aJ.mk 1 [120] 3 0 (ul.mk 4 []) [] false (af.mk 0 0 [] [] [] [] []) []] [] [] []] [] [cO.mk [83] [eG.mk [71,101,116] [77] [77] 1 []] []]) (di.mk [83,47,71,101,116] 1 0 0) [[8,5]]) (.ob (YP (ay.mk [bg.mk [77] [aJ.mk 1 [120] 3 0 (ul.mk 4 []) [] false (af.mk 0 0 [] [] [] [] []) []] [] [] []] [] [cO.mk [83] [eG.mk [71,101,116] [77] [77] 1 []] []]) [di.mk [83,47,71,101,116] 1 0 0] []) (.ix 0 (Aw (ay.mk [bg.mk [77] [aJ.mk 1 [120] 3 0 (ul.mk 4 []) [] false (af.mk 0 0 [] [] [] [] []) []] [] [] []] [] [cO.mk [83] [eG.mk [71,101,116] [77] [77] 1 []] []]) (di.mk [83,47,71,101,116] 1 0 0) [[8,5]]).1.length (.ret (RZ (alA [97] (ay.mk [bg.mk [77] [aJ.mk 1 [120] 3 0 (ul.mk 4 []) [] false (af.mk 0 0 [] [] [] [] []) []] [] [] []] [] [cO.mk [83] [eG.mk [71,101,116] [77] [77] 1 []] []]) [di.mk [83,47,71,101,116] 1 0 0] [] 5).1))))
theorem aq0:Is (awake):=
 aX (by simp[anP,okS,okM,okE,ada,okN,JC,jH]) (aX (by simp[YP,okS,okM,okE,ada,IX]) (dR nG (DK dU) aU))
def awW:aS Z:=E2 [avm,af0,SS] [] a0 (R1 aH) [] func7 1 (fun a=>awake) (fun a=>none) (fun a=>true) fun a h=>⟨aq0,dU⟩
def okD (x:dO):Prop:=((∀m∈x.1.Messages,okM m)/\(∀e∈x.1.Enums,okE e)/\∀v∈x.1.jE,ada v)/\okN x.1/\(∀y∈x.H,y.Method.length<=1048576)/\IX x.L
def aDz (l:List dQ):Prop:=∀a∈l,a.H.cO.length+a.H.Method.length<=4194304
def YX (k:Nat)(t:fU):Prop:=t.Method.length<=1048576/\(t.In.length<=k/\∀d∈t.In,d.length<=3000)/\(t.Ready= -1\/(0<=t.Ready/\t.Ready<=1099511627776))
def Js (x:dO)(k:Nat)(s:Server):Prop:=(s.ay=x.1/\s.Handlers=x.H/\s.iV=x.L)/\Ja k s.Traces/\s.Tasks.length<=k/\(∀t∈s.Tasks,YX k t)/\(s.Tasks.map jc).Nodup
theorem Wq {k m:Nat}{t:fU}(h:YX k t)(hk:k<=m):YX m t:=⟨h.1,⟨zO h.2.1.1 hk,h.2.1.2⟩,h.2.2⟩
theorem YQ {k m:Nat}{t:List Trace}(h:Ja k t)(hk:k<=m):Ja m t:=⟨zO h.1 hk,fun x hx=>zO (h.2 x hx) hk⟩
theorem akI {x:dO}{k m:Nat}{s:Server}(h:Js x k s)(hk:k<=m):Js x m s:=⟨h.1,YQ h.2.1 hk,zO h.2.2.1 hk,fun t ht=>Wq (h.2.2.2.1 t ht) hk,h.2.2.2.2⟩
theorem aD5 {A:Type}{f:A->Nat}{c:Nat}{l:List A}(h:∀x∈l,f x<=c):jH f l<=c*l.length:=by
 induction l with
 | nil=>exact vg _
 | cons a l ih=>
  have h1:=h a qa2;have h2:=ih fun x hx=>h x qct
  simp only[jH,yF,Nat.mul_add,Qdd];omega
theorem ajY {k:Nat}{t:fU}(h:YX k t)(hk:k<=41):Qr t:=by
 refine⟨h.1,?_⟩;have q:jH (fun d:Str=>2+8*d.length) t.In<=24002*t.In.length:=aD5 fun d hd=>by have:=h.2.1.2 d hd;omega
 have:=h.2.1.1;unfold JC;omega
def axg (x:dO):Prop:=x.1.Messages.length<=8/\x.1.Enums.length<=8/\x.1.jE.length<=8/\x.H.length<=8/\x.L.length<=8
theorem aAm {x:dO}(h:okD x)(hf:axg x):okS x.1:=⟨by have:=hf.1;omega,by have:=hf.2.1;omega,by have:=hf.2.2.1;omega,h.1.1,h.1.2.1,h.1.2.2⟩
theorem acx {x:dO}{k:Nat}{s:Server}(hx:okD x)(hf:axg x)(h:Js x k s)(hk:k<=41):wP s/\Ud s:=by
 obtain⟨⟨e1,e2,e3⟩,h2,h3,h4,h5⟩:=h;have a1:okS s.ay:=by rw[e1];exact aAm hx hf
 have a2:okN s.ay:=by rw[e1];exact hx.2.1
 refine⟨⟨a1,a2,by omega,fun t ht=> ?_⟩,a1,a2,by rw[e2];exact hx.2.2.1,by rw[e3];have:=hf.2.2.2.2;omega⟩;have q:=h4 t ht;have:=q.2.1.1;exact⟨q.1,by omega⟩
theorem arK {x:dO}{k:Nat}{s:Server}{a:dQ}(hx:okD x)(hf:axg x)(h:Js x k s)(hk:k<=41)(ha:afq a)(hh:a.H.cO.length+a.H.Method.length<=4194304):abU s a:=by
 obtain⟨k1,k2⟩:=acx hx hf h hk;obtain⟨⟨e1,e2,e3⟩,h2,h3,h4,h5⟩:=h;refine⟨k1,k2.2.2.1,by rw[e3];exact hx.2.2.2,by rw[e3];have:=hf.2.2.2.2;omega,⟨by have:=h2.1;omega,fun y hy=>by have:=h2.2 y hy;omega⟩,ha.2.1,hh,fun t ht=>ajY (h4 t ht) hk⟩
theorem UQ {x:dO}{k m:Nat}{s r:Server}{c i:Int}{P:fU->fU->Prop}(h:Js x k s)(hk:k<=m)(hs:stepT s c i r P)(hP:∀t t',ajv t t'->P t t'->YX k t->YX m t'):Js x m r/\r.Tasks.map jc=s.Tasks.map jc:=by
 rcases hs with⟨_,e⟩ | ⟨v,hv,e,t',⟨h1,h2⟩,e2⟩
 ·rw[e];exact⟨akI h hk,rfl⟩
 obtain⟨q1,q2,q3,q4,q5⟩:=h;have em:(s.Tasks.set v t').map jc=s.Tasks.map jc:=afN (d:=bz) (by unfold jc;rw[h1.1,h1.2.1]);rw[e2];refine⟨⟨q1,YQ q2 hk,by show(s.Tasks.set v t').length<=m;rw[Qbm];omega,fun t ht=> ?_,by show((s.Tasks.set v t').map jc).Nodup;rw[em];exact q5⟩,em⟩;rcases Qcb ht with k1 | k1
 ·exact Wq (q4 t k1) hk
 ·rw[k1];exact hP _ _ h1 h2 (q4 _ (getD_mem hv))
theorem atn {l:List fU}{v:Nat}{d:fU}{q:Int×Int}(hn:(l.map jc).Nodup)(hv:v < l.length)(e:jc (l.getD v d)=q):(l.map jc).erase q=(l.take v++l.drop (v+1)).map jc:=by
 induction l generalizing v with
 | nil=>exact absurd hv (Nat.not_lt_zero _)
 | cons a l ih=>
  cases v with
  | zero=>
   have e:jc a=q:=e;show(jc a::l.map jc).erase q=l.map jc
   rw[e,List.erase_cons_head]
  | succ v=>
   have hv:v < l.length:=by simpa using hv
   rw[DT,Qdj]at hn;have e:jc (l.getD v d)=q:=e;show(jc a::l.map jc).erase q=jc a::(l.take v++l.drop (v+1)).map jc
   have hne:(jc a==q)=false:=by
    rw[Qcc];intro h;exact hn.1 (by rw[h,<-e];exact zI.2 ⟨_,getD_mem hv,rfl⟩)
   rw[List.erase_cons,hne,<-ih hn.2 hv e];rfl
def cT (c:List bn)(a:dQ)(t:Status)(c':List bn):Prop:=(a.Kind.tmod 7=0/\c'=bif t.Code==0 then c++[bn.mk a.kL a.Id true]else c)\/(a.Kind.tmod 7=4/\∃b,clT c a.kL a.Id (c',b))\/((a.Kind.tmod 7≠0/\a.Kind.tmod 7≠4)/\c'=c)
def aoS (x:dO)(k:Nat)(s:Server)(c:List bn)(dn:List fU):Prop:=Js x k s/\c.length<=k/\(opn c).Nodup/\ers (opn c) (dn.map jc)=s.Tasks.map jc/\(dn.map jc).Nodup/\(∀q∈dn.map jc,q∈opn c)/\(∀t∈dn,t.mf=true)/\dn.length<=k
theorem yg {x:dO}{k:Nat}{s:Server}{c:List bn}(h:Js x k s)(hc:c.length<=k)(ho:opn c=s.Tasks.map jc):aoS x k s c []:=⟨h,hc,by rw[ho];exact h.2.2.2.2,ho,Qc9,fun q hq=>(by cases hq),fun t ht=>(by cases ht),vg _⟩
theorem YJ {s:Server}{l m:List fU}(h:Qu (outT s) l m):m.map jc=l.map jc/\∀t∈m,t.mf=true:=by
 induction h with
 | nil=>exact⟨rfl,fun t ht=>by cases ht⟩
 | cons h1 _ ih=>
  obtain⟨⟨k1,k2,_,_,k5⟩,_⟩:=h1;refine⟨by rw[DT,DT,ih.1];unfold jc;rw[k1,k2],fun t ht=> ?_⟩;rcases xI.1 ht with e | ht
  ·rw[e];exact k5
  ·exact ih.2 t ht
theorem aro {x:dO}{k:Nat}{s:Server}{c:List bn}{now:Int}{r:Server×List fU}(h:Js x k s)(hc:c.length<=k)(ho:opn c=s.Tasks.map jc)(hs:auQ s now r):aoS x k r.1 c r.2:=by
 obtain⟨h1,h2⟩:=hs;obtain⟨k1,k2⟩:=YJ h2;obtain⟨q1,q2,q3,q4,q5⟩:=h;have sub:∀p:fU->Bool,((s.Tasks.filter p).map jc).Nodup:=fun p=>q5.sublist (List.filter_sublist.map _)
 refine⟨?_,hc,by rw[ho];exact q5,by rw[k1,ho,aua (nC now) q5,h1];rfl,by rw[k1];exact sub _,fun q hq=> ?_,k2,by rw[afS h2];exact zO (Qb0 _ _) q3⟩
 ·rw[h1];exact⟨q1,q2,zO (Qb0 _ _) q3,fun t ht=>q4 t (R_.1 ht).1,sub _⟩
 ·rw[k1]at hq;rw[ho];obtain⟨t,ht,e⟩:=zI.1 hq;exact zI.2 ⟨t,(R_.1 ht).1,e⟩
theorem ay3 {x:dO}{k:Nat}{s:Server}{c c':List bn}{a:dQ}{r:Server×Status×List fU}(h:Js x k s)(hc:c.length<=k)(ho:opn c=s.Tasks.map jc)(ha:afq a)(hT:aCZ s a r)(hC:cT c a r.2.1 c'):aoS x (k+1) r.1 c' r.2.2:=by
 have h':=akI h (Qev k);have same:(a.Kind.tmod 7≠0/\a.Kind.tmod 7≠4)->c'=c:=fun hne=>by
  rcases hC with⟨e,_⟩ | ⟨e,_⟩ | ⟨_,e⟩
  ·exact absurd e hne.1
  ·exact absurd e hne.2
  ·exact e
 rcases hT with⟨e,hb,hd⟩ | ⟨e,hs,hd⟩ | ⟨e,hs,hd⟩ | ⟨e,hn,hd⟩ | ⟨e,hs⟩ | ⟨e,hs,hd⟩
 ·have ec:c'=bif r.2.1.Code==0 then c++[bn.mk a.kL a.Id true]else c:=by
   rcases hC with⟨_,e'⟩ | ⟨e',_⟩ | ⟨e',_⟩
   ·exact e'
   ·omega
   ·exact absurd e e'.1
  rw[hd];rcases hb with⟨b1,b2⟩ | ⟨b1,b2,b3,b4,tr,t,b5,b6,b7⟩
  ·have b1:r.2.1.Code≠0:=b1;have b2:r.1=s:=b2;rw[ec,beq_eq_false_iff_ne.2 b1,pO,b2];exact yg h' au ho
  ·have b1:r.2.1.Code=0:=b1;have b7:r.1=_:=b7;obtain⟨t1,t2,t3,t4,t5,t6,t7⟩:=b6;have hno:=acH b2;obtain⟨q1,q2,q3,q4,q5⟩:=h;have ek:jc t=(a.kL,a.Id):=by unfold jc;rw[t1,t2]
   rw[ec,b1,b7];refine yg ⟨q1,b5 k q2,by show(s.Tasks++[t]).length<=k+1;rw[kT];exact Nat.succ_le_succ q3,fun y hy=> ?_,?_⟩ (by show(c++[_]).length<=_;rw[kT];exact Nat.succ_le_succ hc) ?_
   ·have hy:y∈s.Tasks++[t]:=hy;rcases rW.1 hy with hy | hy
    ·exact Wq (q4 y hy) (Qev k)
    ·rw[zD.1 hy];exact⟨t7,⟨by rw[t3];exact vg _,fun d hd=>by rw[t3]at hd;cases hd⟩, .inl t4⟩
   ·show((s.Tasks++[t]).map jc).Nodup
    rw[Qdi,Qe];refine⟨q5,Qdj.2 ⟨Qb,Qc9⟩,fun p hp z hz=> ?_⟩;rw[zD.1 hz,ek];obtain⟨y,hy,e⟩:=zI.1 hp;rw[<-e];intro e2;injection e2 with e3 e4
    exact hno y hy ⟨e3,e4⟩
   ·show opn (c++[_])=(s.Tasks++[t]).map jc
    rw[aa8,Qdi,ho];show _++[(a.kL,a.Id)]=_++[jc t]
    rw[ek]
 ·have ec:=same au;rw[hd,ec];obtain⟨i1,i2⟩:=UQ h (Qev k) hs fun t t' hs hm ht=>by
   obtain⟨m1,m2,m3⟩:=hm;obtain⟨z1,⟨z2,z3⟩,z4⟩:=ht;refine⟨by rw[hs.2.2.1];exact z1,?_,by rw[m1];exact z4⟩;rcases m2 with m2 | m2
   ·rw[m2];exact⟨by omega,z3⟩
   ·rw[m2];refine⟨by rw[kT];exact Nat.succ_le_succ z2,fun d hd=> ?_⟩;rcases rW.1 hd with hd | hd
    ·exact z3 d hd
    ·rw[zD.1 hd];exact ha.1
  exact yg i1 au (by rw[i2];exact ho)
 ·have ec:=same au;rw[hd,ec];obtain⟨i1,i2⟩:=UQ (m:=k+1) h (Qev k) hs fun t t' hs hm ht=>by
   obtain⟨m1,m2⟩:=hm;obtain⟨z1,z2,z4⟩:=ht;refine⟨by rw[hs.2.2.1];exact z1,by rw[m1];exact⟨by omega,z2.2⟩,?_⟩;rcases m2 with⟨_,m2⟩ | ⟨_,m2⟩
   ·rw[m2];exact z4
   ·exact .inr m2
  exact yg i1 au (by rw[i2];exact ho)
 ·obtain⟨b,hcl⟩:∃b,clT c a.kL a.Id (c',b):=by
   rcases hC with⟨e',_⟩ | ⟨_,e'⟩ | ⟨e',_⟩
   ·omega
   ·exact e'
   ·exact absurd e e'.2
  rw[hd];have hn5:=h.2.2.2.2;rcases hn with⟨n1,n2⟩ | ⟨v,n1,n2,n3⟩
  ·have hno:=acH n1;rcases hcl with⟨_,e2,_⟩ | ⟨_,hm,_⟩
   ·have e2:c'=c:=e2;rw[e2,n2];exact yg h' au ho
   ·rw[ho]at hm;obtain⟨y,hy,e⟩:=zI.1 hm;injection e with e3 e4
    exact absurd ⟨e3,e4⟩ (hno y hy)
  ·obtain⟨c1,c2⟩:=(ZG (s:=s) (c:=a.kL) (i:=a.Id)).2 au;rw[n2,ww]at c1 c2;have ek:jc (s.Tasks.getD v bz)=(a.kL,a.Id):=by unfold jc;rw[c1,c2]
   have er:=atn hn5 n1 ek;obtain⟨q1,q2,q3,q4,q5⟩:=h';have sub:List.Sublist (s.Tasks.take v++s.Tasks.drop (v+1)) s.Tasks:=by
    conv=>rhs;rw[<-Qbk v s.Tasks]
    refine List.Sublist.append (List.Sublist.refl _) ?_;rw[<-List.drop_drop];exact List.drop_sublist _ _
   have i1:Js x (k+1) r.1:=by
    rw[n3];exact⟨q1,q2,zO sub.length_le q3,fun t ht=>q4 t (sub.subset ht),q5.sublist (sub.map _)⟩
   have em:(a.kL,a.Id)∈s.Tasks.map jc:=by rw[<-ek];exact zI.2 ⟨_,getD_mem n1,rfl⟩
   rcases hcl with⟨_,_,hm⟩ | ⟨_,_,e3,e4⟩
   ·rw[ho]at hm;exact absurd em hm
   ·have e3:opn c'=_:=e3;have e4:c'.length=c.length:=e4;exact yg i1 au (by rw[e3,ho,er,n3])
 ·have ec:=same au;rw[ec];exact aro h' au ho hs
 ·have ec:=same e;rw[hd,ec,hs];exact yg h' au ho
def ayU (c y:List bn)(dn:List fU)(j:Nat):Prop:=y.length=c.length/\opn y=ers (opn c) ((dn.take j).map jc)
theorem afC {c y:List bn}{dn:List fU}{j:Nat}{q:Int×Int}{r:List bn×Bool}(hn:(opn c).Nodup)(hd:(dn.map jc).Nodup)(hm:∀q∈dn.map jc,q∈opn c)(hj:j < dn.length)(hI:ayU c y dn j)(hq:jc (dn.getD j bz)=q)(hr:clT y q.1 q.2 r):r.2=true/\ayU c r.1 dn (j+1):=by
 have e:=take_snoc (d:=bz) hj;have k1:q∈opn c:=hm q (zI.2 ⟨_,getD_mem hj,hq⟩);have k2:q∉(dn.take j).map jc:=by
  have k:=ayj (d:=jc bz) hd (k:=j) (by rw[Qbj];exact hj);rw[<-List.map_take]at k;rw[<-hq];have e2:(dn.map jc).getD j (jc bz)=jc (dn.getD j bz):=by
   rw[List.getD_eq_getElem?_getD,List.getD_eq_getElem?_getD,Qbd,Xh hj];rfl
  rw[e2]at k;exact k
 have k3:q∈opn y:=by rw[hI.2];exact(aw_ hn).2 ⟨k1,k2⟩
 rcases hr with⟨_,_,h3⟩ | ⟨h1,_,h3,h4⟩
 ·exact absurd k3 h3
 ·refine⟨h1,by rw[h4];exact hI.1,?_⟩;rw[h3,hI.2,e,Qdi];show _=ers _ (_++[jc (dn.getD j bz)])
  rw[auF,hq]
def rdy (t:fU):Prop:=t.mf=true\/(t.Ready≠ -1/\t.Ready<=1099511627776)
def aim (x:dO)(k:Nat)(c:List bn)(s:Server)(j:Nat):Prop:=Js x k s/\s.Tasks.map jc=opn c/\∀t∈s.Tasks,jc t∈opn (c.take j)->rdy t
theorem atN {x:dO}{k:Nat}{c:List bn}{s r:Server}{j:Nat}(hj:j < c.length)(hI:aim x k c s j)(ho:(c.getD j bY).open_=true)(hs:stepT s (c.getD j bY).conn (c.getD j bY).id r ar_):aim x k c r (j+1):=by
 obtain⟨h1,h2,h3⟩:=hI;obtain⟨i1,i2⟩:=UQ (m:=k) h1 (l9 k) hs fun t t' hs hm ht=>by
   obtain⟨m1,m2⟩:=hm;obtain⟨z1,z2,z4⟩:=ht;refine⟨by rw[hs.2.2.1];exact z1,by rw[m1];exact z2,?_⟩;rcases m2 with⟨_,m2⟩ | ⟨_,m2⟩
   ·rw[m2];exact z4
   ·exact .inr m2
 refine⟨i1,by rw[i2];exact h2,fun t ht hk=> ?_⟩;rw[take_snoc (d:=bY) hj,aa8]at hk;have e1:opn [c.getD j bY]=[((c.getD j bY).conn,(c.getD j bY).id)]:=by rw[A_,ho];rfl
 rw[e1]at hk;rcases hs with⟨g1,g2⟩ | ⟨v,g1,g2,t',⟨g3,g4⟩,g5⟩
 ·rw[g2]at ht;rcases rW.1 hk with hk | hk
  ·exact h3 t ht hk
  ·have hk:=zD.1 hk;injection hk with hc hi
   have hnn:¬fF s (c.getD j bY).conn (c.getD j bY).id < 0:=fun hlt=>acH hlt t ht ⟨hc,hi⟩
   obtain⟨l1,l2⟩:=ZG (s:=s) (c:=(c.getD j bY).conn) (i:=(c.getD j bY).id);obtain⟨l3,l4⟩:=l2 au;have hmem:s.Tasks.getD (fF s (c.getD j bY).conn (c.getD j bY).id).toNat bz∈s.Tasks:=getD_mem au;have et:t=s.Tasks.getD (fF s (c.getD j bY).conn (c.getD j bY).id).toNat bz:=CB h1.2.2.2.2 ht hmem (by unfold jc;rw[hc,hi,l3,l4]);rcases awX g1 with o | o | o
   ·exact absurd o hnn
   ·rw[<-et]at o;exact .inl o
   ·rw[<-et]at o;rcases(h1.2.2.2.1 t ht).2.2 with q | q
    ·exact absurd q o
    ·exact .inr ⟨o,q.2⟩
 ·have ht':t'∈r.Tasks:=by
   rw[g5];show t'∈s.Tasks.set v t'
   exact List.mem_set au _
  have hrd:rdy t':=by
   rcases g4.2 with⟨q,_⟩ | ⟨_,q1,q2⟩
   ·exact .inl q
   ·exact .inr ⟨by omega,q2⟩
  obtain⟨_,d2⟩:=abb (s:=s) (c:=(c.getD j bY).conn) (i:=(c.getD j bY).id) au;have d1:=(abb (s:=s) (c:=(c.getD j bY).conn) (i:=(c.getD j bY).id) au).1;obtain⟨l3,l4⟩:=(ZG (s:=s) (c:=(c.getD j bY).conn) (i:=(c.getD j bY).id)).2 au;rw[<-d1,g2,ww]at l3 l4;have ek:jc t'=((c.getD j bY).conn,(c.getD j bY).id):=by unfold jc;rw[g3.1,g3.2.1,l3,l4]
  rcases rW.1 hk with hk | hk
  ·have ht2:t∈s.Tasks.set v t':=by rw[g5]at ht;exact ht
   rcases Qcb ht2 with q | q
   ·exact h3 t q hk
   ·rw[q];exact hrd
  ·have hk:=zD.1 hk;rw[CB i1.2.2.2.2 ht ht' (by rw[hk,ek])];exact hrd
theorem asJ {x:dO}{k:Nat}{c:List bn}{s:Server}{j:Nat}(hj:j < c.length)(hI:aim x k c s j)(ho:(c.getD j bY).open_=false):aim x k c s (j+1):=by
 obtain⟨h1,h2,h3⟩:=hI;refine⟨h1,h2,fun t ht hk=>h3 t ht ?_⟩;rw[take_snoc (d:=bY) hj,aa8]at hk;have e1:opn [c.getD j bY]=[]:=by rw[A_,ho];rfl
 rw[e1,Qbi]at hk;exact hk
theorem asT {t:fU}(h:rdy t):nC 1099511627776 t=true:=by
 unfold nC;rcases h with h | ⟨h1,h2⟩
 ·rw[h];simp
 ·rw[uu h2,bne_iff_ne.2 h1];simp
theorem avb {x:dO}{k:Nat}{c:List bn}{s:Server}{r:Server×List fU}(hI:aim x k c s c.length)(hs:auQ s 1099511627776 r):r.1.Tasks=[]/\r.2.map jc=opn c/\(opn c).Nodup:=by
 obtain⟨h1,h2,h3⟩:=hI;rw[Eo]at h3;have hd:∀t∈s.Tasks,nC 1099511627776 t=true:=fun t ht=>asT (h3 t ht (by rw[<-h2];exact zI.2 ⟨t,ht,rfl⟩))
 obtain⟨g1,g2⟩:=hs;obtain⟨k1,_⟩:=YJ g2;refine⟨?_,?_,by rw[<-h2];exact h1.2.2.2.2⟩
 ·rw[g1];show s.Tasks.filter _=[]
  exact Qd8.2 fun t ht=>by rw[hd t ht];simp
 ·rw[k1,Qcw.2 hd,h2]
theorem av8 {l:List (Int×Int)}(hn:l.Nodup):ers l l=[]:=by
 rw[Iq hn];exact Qd8.2 fun a ha=>by simp[ha]
theorem aza {l:List bn}(h:opn l=[]):∀k∈l,k.open_=false:=by
 intro k hk;cases ho:k.open_ with
 | false=>rfl
 | true=>
  have q:(k.conn,k.id)∈opn l:=zI.2 ⟨k,R_.2 ⟨hk,ho⟩,rfl⟩;rw[h]at q;cases q
def law (x:dO)(l:List dQ):Pg Bool:=.br (!aGm x) (.ret true) (.br (!ajy l) (.ret true) (.ob (YP x.1 x.H x.L) (.lt (alA [97] x.1 x.H x.L x.Most) fun(v20:Server×Int)=> .br (v20.2 !=0) (.ret true) (.cut (fun(y8:List bn×Server)=> .cut (fun(ZY:Server)=> .ob (Ud ZY/\ZY.Tasks.length<=1048576/\∀(t:fU),t∈ZY.Tasks->Qr t) (.lt (ajO ZY 1099511627776) fun(v21:Server×List fU)=> .cut (fun(y16:List bn)=> .each true wB y16 bY (fun i17 a19 (Qy:Unit)=> .ix i17 y16.length (.ob (i17.toNat < y16.length) (.br a19.open_ (.ret (.inr false)) (rl ())))) (fun i17 (Qy:Unit)=> .br (RZ v21.1) (.ret true) (.ret false)) ()) (.each true qi v21.2 bz (fun i13 a15 (y14:List bn)=> .ix i13 v21.2.length (.ix i13 v21.2.length (.ob (y14.length<=1048576) (.lt (OO a15.kL a15.Id y14) fun(v22:List bn×Bool)=> .br (!v22.2) (.ret (.inr (.inr false))) (rl v22.1))))) (fun i13 (y14:List bn)=> rl y14) y8.1))) (.each true qi y8.1 bY (fun i9 a11 (yE:Server)=> .ix i9 y8.1.length (.ob (i9.toNat < y8.1.length) (.br a11.open_ (.ix i9 y8.1.length (.ob (i9.toNat < y8.1.length) (.ix i9 y8.1.length (.ob (i9.toNat < y8.1.length) (.ob (wP yE) (rl (apY yE 0 a11.conn a11.id))))))) (rl yE)))) (fun i9 (yE:Server)=> rl yE) y8.2)) (.each true qi l mO (fun i1 a7 (y2:List bn×Server)=> .ix i1 l.length (.ob (abU y2.2 a7) (.lt (aBO y2.2 a7) fun(v23:Server×Status×List fU)=> .cut (fun(y3:List bn)=> .each true qi v23.2.2 bz (fun i4 a6 (y5:List bn)=> .ix i4 v23.2.2.length (.ix i4 v23.2.2.length (.ob (y5.length<=1048576) (.lt (OO a6.kL a6.Id y5) fun(v24:List bn×Bool)=> .br (!v24.2) (.ret (.inr (.inr (.inr false)))) (.ix i4 v23.2.2.length (.br (!a6.mf) (.ret (.inr (.inr (.inr false)))) (rl v24.1))))))) (fun i4 (y5:List bn)=> rl (y5,v23.1)) y3) (.ix i1 l.length (.ob ((7:Int)≠0) (.br (a7.Kind.tmod (7:Int)==0) (.br (v23.2.1.Code==0) (.ix i1 l.length (.ix i1 l.length (.ob (bQ (y2.1.length+1) 24) (rl (y2.1++[bn.mk a7.kL a7.Id true]))))) (rl y2.1)) (.br (a7.Kind.tmod (7:Int)==4) (.ix i1 l.length (.ix i1 l.length (.ob (y2.1.length<=1048576) (rl (OO a7.kL a7.Id y2.1).1)))) (rl y2.1)))))))) (fun i1 (y2:List bn×Server)=> rl y2) ([],v20.1))))))
theorem amc (x:dO)(l:List dQ)(h:okD x/\aDz l):jF (law x l) (fun r=>r=true):=
 by
 obtain⟨hx,hl⟩:=h;unfold law;refine dH (fun _=>ah rfl) fun hf=>dH (fun _=>ah rfl) fun ha=> ?_;have hf:axg x:=aCp (by simpa using hf);obtain⟨hl1,hl2⟩:=awl (l:=l) (by simpa using ha);have hn:YP x.1 x.H x.L:=⟨aAm hx hf,hx.2.2.1,hx.2.2.2,by have:=hf.2.2.2.1;omega,by have:=hf.2.2.2.2;omega⟩;refine ak hn (aC fun v20 avQ=>dC (fun _=>ah rfl) fun h0=> ?_);have e20:v20.1=Server.mk [97] x.1 x.H x.L [] [] x.Most false:=by rw[avQ];exact awH (by rw[<-avQ];exact h0)
 have i0:Js x 0 v20.1:=by
  rw[e20];exact⟨⟨rfl,rfl,rfl⟩,⟨l9 _,fun y hy=>by cases hy⟩,l9 _,fun y hy=>(by cases hy),Qc9⟩
 refine df (fun y=>Js x l.length y.2/\y.1.length<=l.length/\opn y.1=y.2.Tasks.map jc) ?_ fun y8 hy8=> ?_
 ·refine cZ (fun k y=>Js x k y.2/\y.1.length<=k/\opn y.1=y.2.Tasks.map jc) ⟨i0,l9 _,by rw[e20];rfl⟩ au (fun k y2 hk hI=> ?_) (fun y hI=>ah hI);obtain⟨s1,s2,s3⟩:=hI;have hmem:=getD_mem (d:=mO) hk;generalize l.getD k mO=a7 at*;have a1:=hl2 _ hmem;have q:=arK hx hf s1 au a1 (hl _ hmem);refine aZ au au (ak q (aC fun v23 aoD=>df (fun c=>aoS x (k+1) v23.1 c v23.2.2) ?_ fun y3 hy3=> ?_))
  ·have hT:aCZ y2.2 a7 v23:=by rw[aoD];exact(ZF y2.2 a7 q).2
   have mid:∀c',cT y2.1 a7 v23.2.1 c'->aoS x (k+1) v23.1 c' v23.2.2:=fun c' hc=>ay3 s1 s2 s3 a1 hT hc
   refine aZ au au (ak nG (dI (fun e=>dI (fun c0=>aZ au au (aZ au au (ak (b_ au au) (ah (mid _ (.inl ⟨e,by rw[c0];rfl⟩)))))) (fun c0=>ah (mid _ (.inl ⟨e,by rw[beq_eq_false_iff_ne.2 c0];rfl⟩)))) (fun e=>dI (fun e4=>aZ au au (aZ au au (ak au (ah (mid _ (.inr (.inl ⟨e4,_,(wV a7.kL a7.Id y2.1 au).2⟩))))))) (fun e4=>ah (mid _ (.inr (.inr ⟨⟨e,e4⟩,rfl⟩)))))))
  ·obtain⟨m1,m2,m3,m4,m5,m6,m7,m8⟩:=hy3;refine cZ (fun j y=>ayU y3 y v23.2.2 j) ⟨rfl,rfl⟩ au (fun j y hj hI=> ?_) (fun y hI=>ah ?_)
   ·have hy:y.length<=1048576:=by rw[hI.1];omega
    refine aZ au au (aZ au au (ak hy (aC fun v24 hv24=> ?_)));obtain⟨n1,n2⟩:=afC m3 m5 m6 hj hI (q:=((v23.2.2.getD j bz).kL,(v23.2.2.getD j bz).Id)) (r:=v24) rfl (by rw[hv24];exact(wV _ _ y hy).2);have hen:=m7 _ (getD_mem (d:=bz) hj);rw[n1,hen];exact dH (fun e=>by cases e) fun _=>aZ au au (dH (fun e=>by cases e) fun _=>ah n2)
   ·obtain⟨n1,n2⟩:=hI;rw[Eo]at n2;exact⟨m1,by rw[n1];exact m2,by rw[n2];exact m4⟩
 ·obtain⟨s1,s2,s3⟩:=hy8;refine df (fun s=>aim x l.length y8.1 s y8.1.length) (cZ (fun j s=>aim x l.length y8.1 s j) ⟨s1,s3.symm,fun t ht hk=>by rw[Qer]at hk;cases hk⟩ au (fun j s hj hI=> ?_) (fun s hI=>ah hI)) fun ZY aoE=> ?_
  ·have q:=(acx hx hf hI.1 au).1;refine aZ au au (ak au (dH (fun ho=>aZ au au (ak au (aZ au au (ak au (ak q (ah (atN hj hI ho (N8 s 0 _ _ q).2))))))) (fun ho=>ah (asJ hj hI ho))))
  ·obtain⟨k1,k2⟩:=acx hx hf aoE.1 au;have q:Ud ZY/\ZY.Tasks.length<=1048576/\∀t∈ZY.Tasks,Qr t:=⟨k2,k1.2.2.1,fun t ht=>ajY (aoE.1.2.2.2.1 t ht) au⟩;refine ak q (aC fun v21 acU=> ?_);obtain⟨n1,n2,n3⟩:=avb (r:=v21) aoE (by rw[acU];exact(I9 ZY _ q).2);have n4:v21.2.length<=40:=by
    have e:v21.2.length=(opn y8.1).length:=by rw[<-n2,Qbj]
    have e2:(opn y8.1).length<=y8.1.length:=by unfold opn;rw[Qbj];exact Qb0 _ _
    omega
   refine df (fun y=>y.length=y8.1.length/\opn y=[]) (cZ (fun j y=>ayU y8.1 y v21.2 j) ⟨rfl,rfl⟩ au (fun j y hj hI=> ?_) (fun y hI=>ah ?_)) fun y16 avR=> ?_
   ·have hy:y.length<=1048576:=by rw[hI.1];omega
    refine aZ au au (aZ au au (ak hy (aC fun v24 hv24=> ?_)));obtain⟨g1,g2⟩:=afC n3 (by rw[n2];exact n3) (fun q hq=>by rw[n2]at hq;exact hq) hj hI (q:=((v21.2.getD j bz).kL,(v21.2.getD j bz).Id)) (r:=v24) rfl (by rw[hv24];exact(wV _ _ y hy).2);rw[g1];exact dH (fun e=>by cases e) fun _=>ah g2
   ·obtain⟨g1,g2⟩:=hI;rw[Eo,n2,av8 n3]at g2;exact⟨g1,g2⟩
   ·refine cZ (fun _ _=>True) trivial (by have:=avR.1;omega) (fun j y hj _=> ?_) (fun y _=> ?_)
    ·have ho:=aza avR.2 _ (getD_mem (d:=bY) hj);rw[ho];exact aZ au au (ak au (dH (fun e=>by cases e) fun _=>ah trivial))
    ·have hi:RZ v21.1=true:=by
      unfold RZ ahd;rw[n1];rfl
     rw[hi];exact dH (fun _=>ah rfl) fun e=>by cases e
def aIG:aS Z:=E2 [aHC,aoL,avm,awW,axf,ah1,akV,ac_,af0] [jS 8 (bU (fun sl=>[s0 8, .slot 7 false [some 53], .cells (pid (sl 5)) (nn 10)]) (az cI (az lG (l1 fK)))),jS 20 (bU (fun sl=>[s0 11, .slot 7 false [some 53]]) (az cI (l1 lG))),jS 27 (bU (fun sl=>[s0 13, .cells (pid (sl 5)) (nn 10)]) (az cI (l1 fK))),jS 33 (bU (fun sl=>[s0 15, .slot 7 false [some 53]]) (az cI (l1 lG))),jS 40 (bU (fun sl=>[s0 17]) (l1 cI)),jS 100019 (bU (fun sl=>[.slot 7 false [some 53]]) (l1 lG)),jS 100026 (bU (fun sl=>[.slot 7 false [some 53], .cells (pid (sl 5)) (nn 10)]) (az lG (l1 fK))),jS 100031 (bU (fun sl=>[.cells (pid (sl 5)) (nn 10)]) (l1 fK)),jS 100039 (bU (fun sl=>[.slot 7 false [some 53]]) (l1 lG))] (aj (aF qm) (a1 (bu qU))) (R1 aH) [] func3 1 (u2 law) (fun a=>some (okD a.1/\aDz a.2)) (fun a=>true) fun a h=>⟨(amc a.1 a.2 h).1,(fun x l h=>(amc x l h).2) a.1 a.2 h⟩
end
end Go.Proofs.YtmadgoehmjmlmaaGreatDoor

/- Own engine: Vdl. -/
import Derived.Test.YtihakigfhcankaaGreatDoorEng6
set_option linter.unusedVariables false
set_option linter.unusedSimpArgs false
namespace Go.Vc
open Go.RowKit
inductive It where
 | slot (t:Nat) (agg:Bool) (own:List (Option TypeId))
 | cells (l:Nat) (own:List (Option TypeId))
 | row (l:Nat) (e:TypeId)
 | iter (l:Nat)
 | tcs (l:Nat) (t:TypeId) (own:List (Option TypeId))
 | ab9 (l:Nat)
def Bg:Value->Bool
 | .slice none 0 0=>true
 | _=>false
def It.ids:It->List Nat
 | .slot _ _ _=>[]
 | .cells l _=>[l]
 | .row l _=>[l]
 | .iter l=>[l]
 | .tcs l _ _=>[l]
 | .ab9 l=>[l]
section
variable {D:Type}
def acR (blk:Nat->Option (Bk D))(f:Option TypeId)(x:Lf D):Option (Lf D×List (Nat×Bool)):=
 match f with
 | none=>(match x with
  | .own c=>(match blk c with
   | some (.row _ d)=>some (.dat d,[(c,true)])
   | some (.wE d)=>some (.dat d,[])
   | some (.map d)=>some (.dat d,[(c,true)])
   | _=>none)
  | .part c _ _ _ f=>(match blk c with
   | some (.row _ d)=>(match f d with
    | some d'=>some (.dat d',[(c,true)])
    | none=>none)
   | some (.wE d)=>(match f d with
    | some d'=>some (.dat d',[])
    | none=>none)
   | _=>none)
  | x=>some (x,[]))
 | some e=>(match x with
  | .own c=>(match blk c with
   | some (.row e' d)=>if Nat.beq e e' then some (.dat d,[(c,false)])else none
   | _=>none)
  | .val v=>if Bg v then some (.val v,[])else none
  | _=>none)
def sG (blk:Nat->Option (Bk D)):List (Option TypeId)->List (Lf D)->Option (List (Lf D)×List (Nat×Bool))
 | [],[]=>some ([],[])
 | f::fs,x::xs=>
  (match acR blk f x,sG blk fs xs with
  | some (c,m),some (cs,ms)=>some (c::cs,m++ms)
  | _,_=>none)
 | _,_=>none
def zA (slot:Nat->Sl D)(blk:Nat->Option (Bk D)):It->Option (List (Lf D)×List (Nat×Bool))
 | .slot t agg own=>(match slot t with
  | .one (.lf x)=>if agg then none else sG blk own [x]
  | .one (.agg xs)=>if agg then sG blk own xs else none
  | _=>none)
 | .cells l own=>(match blk l with
  | some (.cells xs)=>sG blk own xs
  | _=>none)
 | .row l e=>(match blk l with
  | some (.row e' d)=>if Nat.beq e e' then some ([.dat d],[])else none
  | _=>none)
 | .iter l=>(match blk l with
  | some (.iter s p)=>some ([.str s, .int .i64 p],[])
  | _=>none)
 | .tcs l t own=>(match blk l with
  | some (.tc t' xs)=>if Nat.beq t' t then sG blk own xs else none
  | _=>none)
 | .ab9 l=>(match blk l with
  | some (.map d)=>some ([.dat d],[])
  | _=>none)
def CZ (slot:Nat->Sl D)(blk:Nat->Option (Bk D)):List It->Option (List (List (Lf D))×List (Nat×Bool))
 | []=>some ([],[])
 | i::is=>
  (match zA slot blk i,CZ slot blk is with
  | some (c,m),some (cs,ms)=>some (c::cs,m++ms)
  | _,_=>none)
def NU (f:Option TypeId)(x:Lf D)(n:Nat):Lf D×List (Nat×Bk D)×Nat:=
 match f with
 | none=>(x,[],n)
 | some e=>(match x with
  | .dat d=>(.own n,[(n, .row e d)],n+1)
  | _=>(.any,[],n))
def lL:List (Option TypeId)->List (Lf D)->Nat->List (Lf D)×List (Nat×Bk D)×Nat
 | f::fs,x::xs,n=>
  let p:=NU f x n
  let q:=lL fs xs p.2.2
  (p.1::q.1,p.2.1++q.2.1,q.2.2)
 | _,_,n=>([],[],n)
def ay3:List (Lf D)->Sl D
 | [x]=> .one (.lf x)
 | _=> .one (.lf .any)
def abo:List (Lf D)->Option D
 | [.dat d]=>some d
 | _=>none
def fH:List It->List (List (Lf D))->Nat->List (Nat×Sl D)×List (Nat×Bk D)×Nat
 | .slot t agg own::is,c::cs,n=>
  let p:=lL own c n
  let q:=fH is cs p.2.2
  ((t,if agg then .one (.agg p.1)else ay3 p.1)::q.1,p.2.1++q.2.1,q.2.2)
 | .cells l own::is,c::cs,n=>
  let p:=lL own c n
  let q:=fH is cs p.2.2
  (q.1,(l, .cells p.1)::p.2.1++q.2.1,q.2.2)
 | .row l e::is,c::cs,n=>
  let q:=fH is cs n
  (q.1,(match abo c with
   | some d=>(l, .row e d)::q.2.1
   | none=>q.2.1),q.2.2)
 | .iter l::is,c::cs,n=>
  let q:=fH is cs n
  (q.1,(match c with
   | [.str s, .int _ p]=>(l, .iter s p.toNat)::q.2.1
   | _=>q.2.1),q.2.2)
 | .tcs l t own::is,c::cs,n=>
  let p:=lL own c n
  let q:=fH is cs p.2.2
  (q.1,(l, .tc t p.1)::p.2.1++q.2.1,q.2.2)
 | .ab9 l::is,c::cs,n=>
  let q:=fH is cs n
  (q.1,(match abo c with
   | some d=>(l, .map d)::q.2.1
   | none=>q.2.1),q.2.2)
 | _,_,n=>([],[],n)
def V9 (S:Sh D):List (Lf D)->List (Lf D)->Prop
 | [],[]=>True
 | x::xs,y::ys=>x.Le S y/\y.jJ=true/\V9 S xs ys
 | _,_=>False
def agd (S:Sh D):List (List (Lf D))->List (List (Lf D))->Prop
 | [],[]=>True
 | x::xs,y::ys=>V9 S x y/\agd S xs ys
 | _,_=>False
end
section
variable {D:Type}{S:Sh D}{N:Nat->Prop}{w:World}{w0:Bs}{g:Nat->Option Value}{slot:Nat->Sl D}{blk:Nat->Option (Bk D)}{al:Nat->Prop}{val:Nat->Value}
abbrev Asg:=List (Nat×Value×Option Nat)
structure KQ (N:Nat->Prop)(blk:Nat->Option (Bk D))(g:Nat->Option Value)(vK:Asg)(mv:List (Nat×Bool))(g':Nat->Option Value)(M':Nat->Prop):Prop where
 c2:∀i v o,(i,v,o)∈vK->g' i=some v
 c3:∀b,M' b->aW N blk g b
 c4:∀c,(c,true)∈mv->∀v b,g c=some v->d_ v=some b->¬M' b
theorem KQ.less {vK aur:Asg}{mv mv':List (Nat×Bool)}{g':Nat->Option Value}{M':Nat->Prop}(h:KQ N blk g vK mv g' M')(h1:∀x∈aur,x∈vK)(h2:∀x∈mv',x∈mv):KQ N blk g aur mv' g' M':=
 ⟨fun i v o hi=>h.c2 i v o (h1 _ hi),h.c3,fun c hc=>h.c4 c (h2 _ hc)⟩
def Y3 (S:Sh D)(blk:Nat->Option (Bk D))(g:Nat->Option Value)(mv:List (Nat×Bool))(e:TypeId)(d:D)(v:Value):Option Nat->Prop
 | some c=>blk c=some (.row e d)/\g c=some v/\(c,false)∈mv
 | none=>v= .slice none 0 0/\S.len d=0/\S.mp d=none
theorem Y3.more {mv mv':List (Nat×Bool)}{e:TypeId}{d:D}{v:Value}{o:Option Nat}(h:Y3 S blk g mv e d v o)(hm:∀x∈mv,x∈mv'):Y3 S blk g mv' e d v o:=by
 cases o with
 | none=>exact h
 | some c=>exact⟨h.1,h.2.1,hm _ h.2.2⟩
structure tN (S:Sh D)(blk:Nat->Option (Bk D))(g:Nat->Option Value)(mv:List (Nat×Bool))(vK:Asg)(rows:List (Nat×Bk D))(n n':Nat):Prop where
 le:n<=n'
 rng:∀i v o,(i,v,o)∈vK->n<=i/\i < n'
 uni:∀i v o v' o',(i,v,o)∈vK->(i,v',o')∈vK->v=v'
 ok:∀i v o,(i,v,o)∈vK->∃e d,Y3 S blk g mv e d v o
 inj:(mv.map (·.1)).Nodup->∀i v i' v' c,(i,v,some c)∈vK->(i',v',some c)∈vK->i=i'
 rows:∀i bk,(i,bk)∈rows->∃v o e d,(i,v,o)∈vK/\bk= .row e d/\Y3 S blk g mv e d v o
theorem tN.nil (n:Nat):tN S blk g [] [] [] n n:=⟨lU _,fun _ _ _ h=>by simp at h,fun _ _ _ _ _ h=>by simp at h,fun _ _ _ h=>by simp at h,fun _ _ _ _ _ _ h=>by simp at h,fun _ _ h=>by simp at h⟩
theorem tN.app {mv mv':List (Nat×Bool)}{vK aur:Asg}{rows rows':List (Nat×Bk D)}{n n' n'':Nat}(h:tN S blk g mv vK rows n n')(k:tN S blk g mv' aur rows' n' n''):tN S blk g (mv++mv') (vK++aur) (rows++rows') n n'':=by
 have l1:∀x∈mv,x∈mv++mv':=fun x hx=>Qb4 _ hx
 have l2:∀x∈mv',x∈mv++mv':=fun x hx=>Qcb _ hx
 refine⟨Ak h.le k.le,fun i v o hi=> ?_,fun i v o v' o' h1 h2=> ?_,fun i v o hi=> ?_,fun hn i v i' v' c h1 h2=> ?_,fun i bk hi=> ?_⟩
 ·rcases tY.1 hi with hi | hi
  ·have:=h.rng i v o hi;have:=k.le;omega
  ·have:=k.rng i v o hi;have:=h.le;omega
 ·rcases tY.1 h1 with h1 | h1<;>rcases tY.1 h2 with h2 | h2
  ·exact h.uni i v o v' o' h1 h2
  ·have:=h.rng i v o h1;have:=k.rng i v' o' h2;omega
  ·have:=k.rng i v o h1;have:=h.rng i v' o' h2;omega
  ·exact k.uni i v o v' o' h1 h2
 ·rcases tY.1 hi with hi | hi
  ·obtain⟨e,d,q⟩:=h.ok i v o hi;exact⟨e,d,q.more l1⟩
  ·obtain⟨e,d,q⟩:=k.ok i v o hi;exact⟨e,d,q.more l2⟩
 ·rw[List.map_append,List.nodup_append]at hn;have off:∀c,(c,false)∈mv->(c,false)∈mv'->False:=fun c q1 q2=>hn.2.2 c (Ik.2 ⟨_,q1,rfl⟩) c (Ik.2 ⟨_,q2,rfl⟩) rfl
  rcases tY.1 h1 with h1 | h1<;>rcases tY.1 h2 with h2 | h2
  ·exact h.inj hn.1 i v i' v' c h1 h2
  ·obtain⟨e,d,q⟩:=h.ok i v _ h1;obtain⟨e',d',q'⟩:=k.ok i' v' _ h2;exact(off c q.2.2 q'.2.2).elim
  ·obtain⟨e,d,q⟩:=k.ok i v _ h1;obtain⟨e',d',q'⟩:=h.ok i' v' _ h2;exact(off c q'.2.2 q.2.2).elim
  ·exact k.inj hn.2.1 i v i' v' c h1 h2
 ·rcases tY.1 hi with hi | hi
  ·obtain⟨v,o,e,d,q1,q2,q3⟩:=h.rows i bk hi;exact⟨v,o,e,d,Qb4 _ q1,q2,q3.more l1⟩
  ·obtain⟨v,o,e,d,q1,q2,q3⟩:=k.rows i bk hi;exact⟨v,o,e,d,Qcb _ q1,q2,q3.more l2⟩
theorem Vr {M M':Nat->Prop}{g':Nat->Option Value}{x:Lf D}{v:Value}(hd:x.jJ=true)(h:x.Rel S M w g v)(hM:∀b,M' b->M b):x.Rel S M' w g' v:=by
 cases x<;>first | (simp[Lf.jJ]at hd;done) | exact h | exact dA.mono h hM
theorem acN {v:Value}(h:Bg v=true):v= .slice none 0 0:=by
 unfold Bg at h;split at h
 ·rfl
 ·cases h
theorem A_ {d:D}{y:Lf D}(h:(Lf.dat d).Le S y):y= .dat d:=by
 rcases h with h | ⟨h,_⟩ | ⟨b,h,_⟩ | ⟨_,_,_,_,h,_⟩ | ⟨_,h,_⟩
 ·exact h.symm
 ·cases h
 ·cases h
 ·cases h
 ·cases h
theorem aAv {y:Lf D}(h:(Lf.val (.slice none 0 0)).Le S y)(hd:y.jJ=true):∃d,y= .dat d/\S.len d=0/\S.mp d=none:=by
 rcases h with h | ⟨_,h⟩ | ⟨b,h,_⟩ | ⟨_,_,_,_,h,_⟩ | ⟨_,h,_⟩
 ·subst h;simp[Lf.jJ]at hd
 ·exact h
 ·cases h
 ·cases h
 ·cases h
theorem aE9 (hS:jd S)(hp:Hp S w0 N blk g al w){f:Option TypeId}{x c c':Lf D}{u:Value}{mv:List (Nat×Bool)}{n:Nat}(hr:x.Rel S (aW N blk g) w g u)(ha:acR blk f x=some (c,mv))(hl:c.Le S c')(hd:c'.jJ=true):
  ∃vK,tN S blk g mv vK (NU f c' n).2.1 n (NU f c' n).2.2/\∀g' M',KQ N blk g vK mv g' M'->(NU f c' n).1.Rel S M' w g' u:=by
 unfold acR at ha;cases f with
 | none=>
  dsimp only at ha;simp only[NU];cases x with
  | own k=>
   dsimp only at ha;have hr:g k=some u:=hr;split at ha
   ·rename_i e d hb;injection ha with ha
    injection ha with h1 h2
    subst h1 h2;refine⟨[],⟨lU _,fun _ _ _ h=>by simp at h,fun _ _ _ _ _ h=>by simp at h,fun _ _ _ h=>by simp at h,fun _ _ _ _ _ _ h=>by simp at h,fun _ _ h=>by simp at h⟩,fun g' M' hc=> ?_⟩;rw[A_ hl];exact IV hp hb hr hc.c3 fun b hb'=>hc.c4 k oJ u b hr hb'
   ·rename_i d hb;injection ha with ha
    injection ha with h1 h2
    subst h1 h2;refine⟨[],tN.nil _,fun g' M' hc=> ?_⟩;rw[A_ hl];obtain⟨v',hv',hok⟩:=hp.dH k _ hb;rw[hr]at hv';injection hv' with hv'
    subst hv';exact dA.mono hok hc.c3
   ·rename_i d hb;injection ha with ha
    injection ha with h1 h2
    subst h1 h2;refine⟨[],⟨lU _,fun _ _ _ h=>by simp at h,fun _ _ _ _ _ h=>by simp at h,fun _ _ _ h=>by simp at h,fun _ _ _ _ _ _ h=>by simp at h,fun _ _ h=>by simp at h⟩,fun g' M' hc=> ?_⟩;rw[A_ hl];exact aiD (fun d m h=>⟨(hS.zi d m h).1,(hS.zi d m h).2.1⟩) hp hb hr fun b hb'=>hc.c4 k oJ u b hr hb'
   ·cases ha
  | part k i j sz f=>
   dsimp only at ha;obtain⟨av,nn,cap,hg,rfl,h1,h2,rfl⟩:=hr;have cut:∀(M':Nat->Prop) d d',dA S M' w d (.slice av nn cap)->Xq S sz i j d=some d'->dA S M' w d' (sliced av i j cap sz):=by
    intro M' d d' hd hf;unfold Xq at hf;split at hf
    ·rename_i hz;have hz:=Qa hz;obtain⟨a',cap',e1,_⟩:=dA.slice' hd (hS.Gx _ _ _ _ hf).1;injection e1 with _ e1 _
     have:=FD hS hd hf h1 au;rw[hz];exact this
    ·cases hf
   split at ha
   ·rename_i e d hb;split at ha
    ·rename_i d' hf;injection ha with ha
     injection ha with q1 q2
     subst q1 q2;refine⟨[],⟨lU _,fun _ _ _ h=>by simp at h,fun _ _ _ _ _ h=>by simp at h,fun _ _ _ h=>by simp at h,fun _ _ _ _ _ _ h=>by simp at h,fun _ _ h=>by simp at h⟩,fun g' M' hc=> ?_⟩;rw[A_ hl];exact cut M' d d' (IV hp hb hg hc.c3 fun b hb'=>hc.c4 k oJ _ b hg hb') hf
    ·cases ha
   ·rename_i d hb;split at ha
    ·rename_i d' hf;injection ha with ha
     injection ha with q1 q2
     subst q1 q2;refine⟨[],tN.nil _,fun g' M' hc=> ?_⟩;rw[A_ hl];obtain⟨v',hv',hok⟩:=hp.dH k _ hb;rw[hg]at hv';injection hv' with hv'
     subst hv';exact cut M' d d' (dA.mono hok hc.c3) hf
    ·cases ha
   ·cases ha
  | _=>
   injection ha with ha
   injection ha with h1 h2
   subst h1 h2;exact⟨[],tN.nil _,fun g' M' hc=>Vr hd (Lf.Le.rel hl hr) hc.c3⟩
 | some e=>
  dsimp only at ha;cases x with
  | own k=>
   dsimp only at ha;have hr:g k=some u:=hr;split at ha
   ·rename_i e' d hb;split at ha
    ·rename_i he;have he:=Qa he;subst he;injection ha with ha
     injection ha with h1 h2
     subst h1 h2;have:=A_ hl;subst this;simp only[NU];refine⟨[(n,u,some k)],⟨by omega,fun i v o hi=> ?_,fun i v o v' o' h1 h2=> ?_,fun i v o hi=> ?_,fun _ i v i' v' c h1 h2=> ?_,fun i bk hi=> ?_⟩,fun g' M' hc=>hc.c2 n u (some k) oJ⟩
     ·simp only[Aj,V6]at hi;omega
     ·simp only[Aj,V6]at h1 h2;rw[h1.2.1,h2.2.1]
     ·simp only[Aj,V6]at hi;obtain⟨rfl,rfl,rfl⟩:=hi;exact⟨e,d,hb,hr,by simp⟩
     ·simp only[Aj,V6]at h1 h2;rw[h1.1,h2.1]
     ·simp only[Aj,V6]at hi;obtain⟨rfl,rfl⟩:=hi;exact⟨u,some k,e,d,by simp,rfl,hb,hr,by simp⟩
    ·cases ha
   ·cases ha
  | val v=>
   dsimp only at ha;split at ha
   ·rename_i hn;have hn:=acN hn;subst hn;injection ha with ha
    injection ha with h1 h2
    subst h1 h2;obtain⟨d,rfl,hz⟩:=aAv hl hd;have hr:u=_:=hr;simp only[NU];refine⟨[(n,u,none)],⟨by omega,fun i v o hi=> ?_,fun i v o v' o' h1 h2=> ?_,fun i v o hi=> ?_,fun _ i v i' v' c h1 h2=> ?_,fun i bk hi=> ?_⟩,fun g' M' hc=>hc.c2 n u none oJ⟩
    ·simp only[Aj,V6]at hi;omega
    ·simp only[Aj,V6]at h1 h2;rw[h1.2.1,h2.2.1]
    ·simp only[Aj,V6]at hi;obtain⟨rfl,rfl,rfl⟩:=hi;exact⟨e,d,hr,hz⟩
    ·simp only[Aj,V6]at h1;obtain⟨_,_,h1⟩:=h1;cases h1
    ·simp only[Aj,V6]at hi;obtain⟨rfl,rfl⟩:=hi;exact⟨u,none,e,d,by simp,rfl,hr,hz⟩
   ·cases ha
  | _=>cases ha
theorem Zt (hS:jd S)(hp:Hp S w0 N blk g al w):∀(fs:List (Option TypeId)) (xs cs cs':List (Lf D)) (us:List Value) (mv:List (Nat×Bool)) (n:Nat),aZ S (aW N blk g) w g xs us->sG blk fs xs=some (cs,mv)->V9 S cs cs'->
  ∃vK,tN S blk g mv vK (lL fs cs' n).2.1 n (lL fs cs' n).2.2/\∀g' M',KQ N blk g vK mv g' M'->aZ S M' w g' (lL fs cs' n).1 us
 | [],[],cs,cs',us,mv,n,hr,ha,hl=>by
  injection ha with ha
  injection ha with h1 h2
  subst h1 h2;cases cs' with
  | cons _ _=>exact hl.elim
  | nil=>
   cases us with
   | cons _ _=>exact hr.elim
   | nil=>exact⟨[],tN.nil _,fun _ _ _=>trivial⟩
 | [],_::_,_,_,_,_,_,_,ha,_=>by simp[sG]at ha
 | _::_,[],_,_,_,_,_,_,ha,_=>by simp[sG]at ha
 | f::fs,x::xs,cs,cs',us,mv,n,hr,ha,hl=>by
  unfold sG at ha;split at ha
  ·rename_i c m cs0 ms h1 h2;injection ha with ha
   injection ha with e1 e2
   subst e1 e2;cases cs' with
   | nil=>exact hl.elim
   | cons c' cs'=>
    cases us with
    | nil=>exact hr.elim
    | cons u us=>
     obtain⟨a1,k1,r1⟩:=aE9 hS hp (n:=n) hr.1 h1 hl.1 hl.2.1;obtain⟨a2,k2,r2⟩:=Zt hS hp fs xs cs0 cs' us ms (NU f c' n).2.2 hr.2 h2 hl.2.2;refine⟨a1++a2,k1.app k2,fun g' M' hc=>⟨r1 g' M' (hc.less (fun x hx=>Qb4 _ hx) (fun x hx=>Qb4 _ hx)),r2 g' M' (hc.less (fun x hx=>Qcb _ hx) (fun x hx=>Qcb _ hx))⟩⟩
  ·cases ha
def OQ (S:Sh D)(N:Nat->Prop)(w0:Bs)(w:World)(blk:Nat->Option (Bk D))(g:Nat->Option Value)(ids:List Nat)(vK:Asg)(mv:List (Nat×Bool))(bs:List (Nat×Bk D)):Prop:=
 ∀l bk,(l,bk)∈bs->(∃v o e d,(l,v,o)∈vK/\bk= .row e d/\Y3 S blk g mv e d v o)\/
  (l∈ids/\hot (blk l)=true/\∃v,g l=some v/\∀g' M',KQ N blk g vK mv g' M'->xJ S M' w g' w0 bk v)
theorem aq7 (hS:jd S)(hp:Hp S w0 N blk g al w)(hs:∀t,(slot t).Rel S (aW N blk g) w g (val t)):∀(is:List It) (cs cs':List (List (Lf D))) (mv:List (Nat×Bool)) (n:Nat),CZ slot blk is=some (cs,mv)->agd S cs cs'->
  ∃vK,tN S blk g mv vK [] n (fH is cs' n).2.2/\(∀t y,(t,y)∈(fH is cs' n).1->∀g' M',KQ N blk g vK mv g' M'->y.Rel S M' w g' (val t))/\
   OQ S N w0 w blk g (is.flatMap It.ids) vK mv (fH is cs' n).2.1
 | [],cs,cs',mv,n,ha,hl=>by
  injection ha with ha
  injection ha with h1 h2
  subst h1 h2;exact⟨[],by simpa[fH]using tN.nil n,fun t y h=>by simp[fH]at h,fun l bk h=>by simp[fH]at h⟩
 | i::is,cs,cs',mv,n,ha,hl=>by
  unfold CZ at ha;split at ha
  ·rename_i c m cs0 ms h1 h2;injection ha with ha
   injection ha with e1 e2
   subst e1 e2;cases cs' with
   | nil=>exact hl.elim
   | cons c' cs'=>
    have rest:=fun n=>aq7 hS hp hs is cs0 cs' ms n h2 hl.2
    have inl:∀{α:Type} {a b:List α},∀x∈a,x∈a++b:=fun x hx=>Qb4 _ hx
    have inr:∀{α:Type} {a b:List α},∀x∈b,x∈a++b:=fun x hx=>Qcb _ hx
    have ah6:∀{mv:List (Nat×Bool)} {vK:Asg} {rows:List (Nat×Bk D)} {n n':Nat},tN S blk g mv vK rows n n'->tN S blk g mv vK [] n n':=fun k=>⟨k.le,k.rng,k.uni,k.ok,k.inj,fun _ _ h=>by simp at h⟩
    have lift:∀{ids:List Nat} {a1 a2:Asg} {bs:List (Nat×Bk D)},OQ S N w0 w blk g ids a2 ms bs->∀ah4,(∀x∈ids,x∈ah4)->OQ S N w0 w blk g ah4 (a1++a2) (m++ms) bs:=by
     intro ids a1 a2 bs h ah4 hi l bk hl;rcases h l bk hl with⟨v,o,e,d,q1,q2,q3⟩ | ⟨q1,q2,v,q3,q4⟩
     ·exact .inl ⟨v,o,e,d,inr _ q1,q2,q3.more inr⟩
     ·exact .inr ⟨hi _ q1,q2,v,q3,fun g' M' hc=>q4 g' M' (hc.less inr inr)⟩
    have ah_:∀{ids:List Nat} {a1 a2:Asg} {rows:List (Nat×Bk D)} {n n':Nat},tN S blk g m a1 rows n n'->OQ S N w0 w blk g ids (a1++a2) (m++ms) rows:=by
     intro ids a1 a2 rows n n' k l bk hl;obtain⟨v,o,e,d,q1,q2,q3⟩:=k.rows l bk hl;exact .inl ⟨v,o,e,d,inl _ q1,q2,q3.more inl⟩
    have both:∀{ids:List Nat} {a:Asg} {mv:List (Nat×Bool)} {b1 b2:List (Nat×Bk D)},OQ S N w0 w blk g ids a mv b1->OQ S N w0 w blk g ids a mv b2->OQ S N w0 w blk g ids a mv (b1++b2):=by
     intro ids a mv b1 b2 h1 h2 l bk hl;rcases tY.1 hl with hl | hl
     ·exact h1 l bk hl
     ·exact h2 l bk hl
    cases i with
    | slot t agg own=>
     simp only[zA]at h1;have key:∀xs us,aZ S (aW N blk g) w g xs us->sG blk own xs=some (c,m)->(∀g' M',aZ S M' w g' (lL own c' n).1 us->(if agg=true then Sl.one (.agg (lL own c' n).1)else ay3 (lL own c' n).1).Rel S M' w g' (val t))->
       ∃vK,tN S blk g (m++ms) vK [] n (fH (.slot t agg own::is) (c'::cs') n).2.2/\(∀t' y,(t',y)∈(fH (.slot t agg own::is) (c'::cs') n).1->∀g' M',KQ N blk g vK (m++ms) g' M'->y.Rel S M' w g' (val t'))/\
        OQ S N w0 w blk g ((It.slot t agg own::is).flatMap It.ids) vK (m++ms) (fH (.slot t agg own::is) (c'::cs') n).2.1:=by
      intro xs us hxu hab hfin;obtain⟨a1,k1,r1⟩:=Zt hS hp own xs c c' us m n hxu hab hl.1;obtain⟨a2,k2,r2,b2⟩:=rest (lL own c' n).2.2;simp only[fH];refine⟨a1++a2,by simpa using(ah6 k1).app k2,fun t' y hty g' M' hc=> ?_,both (ah_ k1) (lift b2 _ fun x hx=>by simpa[It.ids]using hx)⟩;rcases yR.1 hty with hty | hty
      ·injection hty with q1 q2
       subst q1 q2;exact hfin g' M' (r1 g' M' (hc.less inl inl))
      ·exact r2 t' y hty g' M' (hc.less inr inr)
     have ht:=hs t;split at h1
     ·rename_i x hx;rw[hx]at ht;split at h1
      ·cases h1
      ·rename_i hagg;refine key [x] [val t] ⟨ht,trivial⟩ h1 fun g' M' h=> ?_;rw[qC hagg];generalize (lL own c' n).1=ys at h;cases ys with
       | nil=>exact h.elim
       | cons y ys=>
        cases ys with
        | cons _ _=>exact h.2.elim
        | nil=>exact h.1
     ·rename_i xs hx;rw[hx]at ht;split at h1
      ·rename_i hagg;obtain⟨vs,hv,hr⟩:=ht;refine key xs vs hr h1 fun g' M' h=> ?_;rw[Qb hagg,hv];exact⟨vs,rfl,h⟩
      ·cases h1
     ·cases h1
    | cells l own=>
     simp only[zA]at h1;split at h1
     ·rename_i xs hb;obtain⟨v,hv,b,vs,ty,rfl,hm,hh,hr⟩:=hp.dH l _ hb;obtain⟨a1,k1,r1⟩:=Zt hS hp own xs c c' vs m n hr h1 hl.1;obtain⟨a2,k2,r2,b2⟩:=rest (lL own c' n).2.2;simp only[fH];refine⟨a1++a2,by simpa using(ah6 k1).app k2,fun t' y hty g' M' hc=>r2 t' y hty g' M' (hc.less inr inr),?_⟩;refine both (b1:=(l, .cells (lL own c' n).1)::(lL own c' n).2.1) ?_ (lift b2 _ fun x hx=>by simp only[Qbp,tY];exact .inr hx);intro l' bk hlb;rcases yR.1 hlb with hlb | hlb
      ·injection hlb with q1 q2
       subst q1 q2;exact .inr ⟨by simp[It.ids],by rw[hb];rfl,_,hv,fun g' M' hc=>⟨b,vs,ty,rfl,hm,hh,r1 g' M' (hc.less inl inl)⟩⟩
      ·exact ah_ (ids:=_) (a2:=a2) k1 l' bk hlb
     ·cases h1
    | tcs l t own=>
     simp only[zA]at h1;split at h1
     ·rename_i t' xs hb;split at h1
      ·rename_i ht;have ht:=Qa ht;subst ht;obtain⟨v,hv,b,vs,rfl,hm,hh,hr⟩:=hp.dH l _ hb;obtain⟨a1,k1,r1⟩:=Zt hS hp own xs c c' vs m n hr h1 hl.1;obtain⟨a2,k2,r2,b2⟩:=rest (lL own c' n).2.2;simp only[fH];refine⟨a1++a2,by simpa using(ah6 k1).app k2,fun t' y hty g' M' hc=>r2 t' y hty g' M' (hc.less inr inr),?_⟩;refine both (b1:=(l, .tc t' (lL own c' n).1)::(lL own c' n).2.1) ?_ (lift b2 _ fun x hx=>by simp only[Qbp,tY];exact .inr hx);intro l' bk hlb;rcases yR.1 hlb with hlb | hlb
       ·injection hlb with q1 q2
        subst q1 q2;exact .inr ⟨by simp[It.ids],by rw[hb];rfl,_,hv,fun g' M' hc=>⟨b,vs,rfl,hm,hh,r1 g' M' (hc.less inl inl)⟩⟩
       ·exact ah_ (ids:=_) (a2:=a2) k1 l' bk hlb
      ·cases h1
     ·cases h1
    | row l e=>
     simp only[zA]at h1;split at h1
     ·rename_i e' d hb;split at h1
      ·rename_i he;have he:=Qa he;subst he;injection h1 with h1
       injection h1 with q1 q2
       subst q1 q2;obtain⟨hl1,hl2⟩:=hl;cases c' with
       | nil=>exact hl1.elim
       | cons y ys=>
        cases ys with
        | cons _ _=>exact hl1.2.2.elim
        | nil=>
         have:=A_ hl1.1;subst this;obtain⟨a2,k2,r2,b2⟩:=rest n;obtain⟨v,hv,hok⟩:=hp.dH l _ hb;simp only[fH,abo];refine⟨a2,by simpa using k2,fun t' y hty g' M' hc=>r2 t' y hty g' M' (by simpa using hc),?_⟩;refine both (b1:=[(l, .row e d)]) (fun l' bk hlb=> ?_) qbh;simp only[Aj,V6]at hlb;obtain⟨rfl,rfl⟩:=hlb;refine .inr ⟨by simp[It.ids],by rw[hb];rfl,v,hv,fun g' M' hc=> ?_⟩;obtain⟨Ci,xs,hown,hcell⟩:=hok;refine⟨Ci,xs,hown,fun i j hi hj=> ?_⟩;obtain⟨u,k1,k3,k4⟩:=hcell i j hi hj;exact⟨u,k1,k3,Vr k3 k4 hc.c3⟩
      ·cases h1
     ·cases h1
    | iter l=>
     simp only[zA]at h1;split at h1
     ·rename_i s p hb;injection h1 with h1
      injection h1 with q1 q2
      subst q1 q2;obtain⟨hl1,hl2⟩:=hl;cases c' with
      | nil=>exact hl1.elim
      | cons y ys=>
       cases ys with
       | nil=>exact hl1.2.2.elim
       | cons z zs=>
        cases zs with
        | cons _ _=>exact hl1.2.2.2.2.elim
        | nil=>
         have e1:y= .str s:=by
          rcases hl1.1 with h | ⟨h,_⟩ | ⟨b,h,_⟩ | ⟨_,_,_,_,h,_⟩ | ⟨_,h,_⟩
          ·exact h.symm
          ·cases h
          ·cases h
          ·cases h
          ·cases h
         have e2:z= .int .i64 p:=by
          rcases hl1.2.2.1 with h | ⟨h,_⟩ | ⟨b,h,_⟩ | ⟨_,_,_,_,h,_⟩ | ⟨_,h,_⟩
          ·exact h.symm
          ·cases h
          ·cases h
          ·cases h
          ·cases h
         subst e1 e2;obtain⟨a2,k2,r2,b2⟩:=rest n;obtain⟨v,hv,hok⟩:=hp.dH l _ hb;simp only[fH,zk];refine⟨a2,by simpa using k2,fun t' y hty g' M' hc=>r2 t' y hty g' M' (by simpa using hc),?_⟩;refine both (b1:=[(l, .iter s p)]) (fun l' bk hlb=> ?_) qbh;simp only[Aj,V6]at hlb;obtain⟨rfl,rfl⟩:=hlb;exact .inr ⟨by simp[It.ids],by rw[hb];rfl,v,hv,fun g' M' hc=>hok⟩
     ·cases h1
    | ab9 l=>
     simp only[zA]at h1;split at h1
     ·rename_i d hb;injection h1 with h1
      injection h1 with q1 q2
      subst q1 q2;obtain⟨hl1,hl2⟩:=hl;cases c' with
      | nil=>exact hl1.elim
      | cons y ys=>
       cases ys with
       | cons _ _=>exact hl1.2.2.elim
       | nil=>
        have:=A_ hl1.1;subst this;obtain⟨a2,k2,r2,b2⟩:=rest n;obtain⟨v,hv,hok⟩:=hp.dH l _ hb;simp only[fH,abo];refine⟨a2,by simpa using k2,fun t' y hty g' M' hc=>r2 t' y hty g' M' (by simpa using hc),?_⟩;refine both (b1:=[(l, .map d)]) (fun l' bk hlb=> ?_) qbh;simp only[Aj,V6]at hlb;obtain⟨rfl,rfl⟩:=hlb;exact .inr ⟨by simp[It.ids],by rw[hb];rfl,v,hv,fun g' M' hc=>hok⟩
     ·cases h1
  ·cases ha
theorem aoS {f:Option TypeId}{x c:Lf D}{mv:List (Nat×Bool)}(h:acR blk f x=some (c,mv)):∀p∈mv,hot (blk p.1)=true:=by
 unfold acR at h;split at h
 ·split at h
  ·split at h
   ·rename_i hb;injection h with h;injection h with _ h;subst h
    intro p hp;simp only[Aj]at hp;subst hp;rw[hb];rfl
   ·injection h with h;injection h with _ h;subst h;simp
   ·rename_i hb;injection h with h;injection h with _ h;subst h
    intro p hp;simp only[Aj]at hp;subst hp;rw[hb];rfl
   ·cases h
  ·split at h
   ·rename_i hb;split at h
    ·injection h with h;injection h with _ h;subst h
     intro p hp;simp only[Aj]at hp;subst hp;rw[hb];rfl
    ·cases h
   ·split at h
    ·injection h with h;injection h with _ h;subst h;simp
    ·cases h
   ·cases h
  ·injection h with h;injection h with _ h;subst h;simp
 ·split at h
  ·split at h
   ·rename_i hb;split at h
    ·injection h with h;injection h with _ h;subst h
     intro p hp;simp only[Aj]at hp;subst hp;rw[hb];rfl
    ·cases h
   ·cases h
  ·split at h
   ·injection h with h;injection h with _ h;subst h;simp
   ·cases h
  ·cases h
theorem zx:∀(fs:List (Option TypeId)) (xs cs:List (Lf D)) (mv:List (Nat×Bool)),sG blk fs xs=some (cs,mv)->∀p∈mv,hot (blk p.1)=true
 | [],[],cs,mv,h=>by injection h with h;injection h with _ h;subst h;simp
 | [],_::_,_,_,h=>by simp[sG]at h
 | _::_,[],_,_,h=>by simp[sG]at h
 | f::fs,x::xs,cs,mv,h=>by
  unfold sG at h;split at h
  ·rename_i c m cs0 ms h1 h2;injection h with h;injection h with _ h;subst h
   intro p hp;rcases tY.1 hp with hp | hp
   ·exact aoS h1 p hp
   ·exact zx fs xs cs0 ms h2 p hp
  ·cases h
theorem XK:∀(is:List It) (cs:List (List (Lf D))) (mv:List (Nat×Bool)),CZ slot blk is=some (cs,mv)->∀p∈mv,hot (blk p.1)=true
 | [],cs,mv,h=>by injection h with h;injection h with _ h;subst h;simp
 | i::is,cs,mv,h=>by
  unfold CZ at h;split at h
  ·rename_i c m cs0 ms h1 h2;injection h with h;injection h with _ h;subst h
   intro p hp;rcases tY.1 hp with hp | hp
   ·cases i with
    | slot t agg own=>
     simp only[zA]at h1;split at h1
     ·split at h1
      ·cases h1
      ·exact zx _ _ _ _ h1 p hp
     ·split at h1
      ·exact zx _ _ _ _ h1 p hp
      ·cases h1
     ·cases h1
    | cells l own=>
     simp only[zA]at h1;split at h1
     ·exact zx _ _ _ _ h1 p hp
     ·cases h1
    | tcs l t own=>
     simp only[zA]at h1;split at h1
     ·split at h1
      ·exact zx _ _ _ _ h1 p hp
      ·cases h1
     ·cases h1
    | row l e=>
     simp only[zA]at h1;split at h1
     ·split at h1
      ·injection h1 with h1;injection h1 with _ h1;subst h1;simp at hp
      ·cases h1
     ·cases h1
    | iter l=>
     simp only[zA]at h1;split at h1
     ·injection h1 with h1;injection h1 with _ h1;subst h1;simp at hp
     ·cases h1
    | ab9 l=>
     simp only[zA]at h1;split at h1
     ·injection h1 with h1;injection h1 with _ h1;subst h1;simp at hp
     ·cases h1
   ·exact XK is cs0 ms h2 p hp
  ·cases h
theorem Lf.xw (y:Lf D):y.ren (fun l=>l)=y:=by cases y<;>simp[Lf.ren]
theorem Sv.xw (y:Sv D):y.ren (fun l=>l)=y:=by
 cases y with
 | lf x=>simp[Sv.ren,Lf.xw]
 | agg xs=>
  have:Lf.ren (fun l=>l)=(id:Lf D->Lf D):=funext fun x=>Lf.xw x
  simp[Sv.ren,this]
theorem Sl.xw (y:Sl D):y.ren (fun l=>l)=y:=by
 cases y with
 | one x=>simp[Sl.ren,Sv.xw]
 | xx xs=>
  have:Sv.ren (fun l=>l)=(id:Sv D->Sv D):=funext fun x=>Sv.xw x
  simp[Sl.ren,this]
theorem Bk.xw (y:Bk D):y.ren (fun l=>l)=y:=by
 cases y with
 | cells xs=>
  have:Lf.ren (fun l=>l)=(id:Lf D->Lf D):=funext fun x=>Lf.xw x
  simp[Bk.ren,this]
 | row e d=>rfl
 | wE d=>rfl
 | iter s p=>rfl
 | map kvs=>rfl
 | tc t xs=>
  have:Lf.ren (fun l=>l)=(id:Lf D->Lf D):=funext fun x=>Lf.xw x
  simp[Bk.ren,this]
def lookA:Asg->Nat->Option Value
 | [],_=>none
 | (i,v,_)::r,l=>if i=l then some v else lookA r l
theorem Fe:∀{vK:Asg} {l:Nat} {v:Value},lookA vK l=some v->∃o,(l,v,o)∈vK
 | [],_,_,h=>by simp[lookA]at h
 | (i,u,o)::r,l,v,h=>by
  unfold lookA at h;split at h
  ·rename_i e;injection h with h
   subst e h;exact⟨o,by simp⟩
  ·obtain⟨o',ho'⟩:=Fe h;exact⟨o',Qbz _ ho'⟩
theorem RI:∀{vK:Asg} {l:Nat} {v:Value} {o:Option Nat},(l,v,o)∈vK->∃u,lookA vK l=some u
 | [],_,_,_,h=>by simp at h
 | (i,u,o')::r,l,v,o,h=>by
  unfold lookA;split
  ·exact⟨u,rfl⟩
  ·rename_i e;rcases yR.1 h with h | h
   ·injection h with h1 _;exact absurd h1.symm e
   ·exact RI h
theorem amW {mv:List (Nat×Bool)}(h:(mv.map (·.1)).Nodup){c:Nat}{x y:Bool}(h1:(c,x)∈mv)(h2:(c,y)∈mv):x=y:=by
 induction mv with
 | nil=>simp at h1
 | cons p r ih=>
  simp only[F_,List.nodup_cons]at h;rcases yR.1 h1 with e1 | h1<;>rcases yR.1 h2 with e2 | h2
  ·rw[<-e1]at e2;injection e2 with _ e2;exact e2.symm
  ·exact absurd (Ik.2 ⟨_,h2,by rw[<-e1]⟩) h.1
  ·exact absurd (Ik.2 ⟨_,h1,by rw[<-e2]⟩) h.1
  ·exact ih h.2 h1 h2
def Ox:List (Nat×Sl D)->Nat->Option (Sl D)
 | [],_=>none
 | (k,v)::r,n=>if Nat.beq n k then some v else Ox r n
theorem XM:∀{l:List (Nat×Sl D)} {k:Nat} {v:Sl D},Ox l k=some v->(k,v)∈l
 | [],_,_,h=>by simp[Ox]at h
 | (k',v')::r,k,v,h=>by
  simp only[Ox]at h;split at h
  ·rename_i hk;injection h with h
   subst h;rw[Qa hk];simp
  ·exact Qbz _ (XM h)
def rZ (bs:List (Nat×Bk D))(Ef:Nat->Option (Bk D))(l:Nat):Option (Bk D):=
 match jW bs l with
 | some bk=>some bk
 | none=>Ef l
def U6 (ss:List (Nat×Sl D))(Ad:Nat->Sl D)(t:Nat):Sl D:=
 match Ox ss t with
 | some y=>y
 | none=>Ad t
theorem acj (hS:jd S)(hp:Hp S w0 N blk g al w)(hs:∀t,(slot t).Rel S (aW N blk g) w g (val t)){is:List It}{cs cs':List (List (Lf D))}{mv:List (Nat×Bool)}{nx nx':Nat}{ss:List (Nat×Sl D)}{bs:List (Nat×Bk D)}{Ad:Nat->Sl D}{Ef:Nat->Option (Bk D)}
  (ha:CZ slot blk is=some (cs,mv)) (hl:agd S cs cs') (hcon:fH is cs' nx=(ss,bs,nx')) (hnd:(mv.map (·.1)).Nodup) (W_:∀l∈is.flatMap It.ids,l < nx/\l∉mv.map (·.1))
  (hbs:∀t,Ad t= .one (.lf .any)\/(slot t=Ad t/\∀l∈(Ad t).refs,l < nx)) (hbb:∀l bk,Ef l=some bk->l < nx/\blk l=some bk/\(∀r∈bk.refs,r < nx)/\l∉mv.map (·.1)):
  ∃g',Hp S w0 N (rZ bs Ef) g' (· < nx') w/\(∀t,(U6 ss Ad t).Rel S (aW N (rZ bs Ef) g') w g' (val t))/\(∀l,l < nx->g' l=g l):=by
 obtain⟨vK,ab6,hsl,hbk⟩:=aq7 hS hp hs is cs cs' mv nx ha hl;rw[hcon]at ab6 hsl hbk;dsimp only at ab6 hsl hbk;have hmv:=XK is cs mv ha;let g':Nat->Option Value:=fun l=>if l < nx then g l else lookA vK l
 have gold:∀l,l < nx->g' l=g l:=fun l h=>Qb h
 have c2:∀i v o,(i,v,o)∈vK->g' i=some v:=fun i v o hi=>by
  have:=(ab6.rng i v o hi).1;show(if i < nx then g i else lookA vK i)=some v
  rw[qC au];obtain⟨u,hu⟩:=RI hi;obtain⟨o',ho'⟩:=Fe hu;rw[hu,ab6.uni i v o u o' hi ho']
 have auJ:∀{c:Nat} {x:Bool},(c,x)∈mv->c∈mv.map (·.1):=fun h=>Ik.2 ⟨_,h,rfl⟩
 have src:∀l v b,hot (rZ bs Ef l)=true->g' l=some v->d_ v=some b->∃c,hot (blk c)=true/\g c=some v/\((c=l/\l < nx/\l∉mv.map (·.1))\/(nx<=l/\(c,false)∈mv/\(l,v,some c)∈vK)):=by
  intro l v b hh hg hb;obtain⟨bk,hbk',hh⟩:=jU hh;unfold rZ at hbk';split at hbk'
  ·rename_i qO hlk;injection hbk' with hbk'
   subst hbk';rcases hbk l _ (rM hlk)with⟨v0,o,e,d,q1,q2,q3⟩ | ⟨q1,q2,v0,q3,q4⟩
   ·rw[c2 l v0 o q1]at hg;injection hg with hg
    subst hg;cases o with
    | none=>rw[q3.1]at hb;simp[d_]at hb
    | some c=>exact⟨c,by rw[q3.1];rfl,q3.2.1, .inr ⟨(ab6.rng _ _ _ q1).1,q3.2.2,q1⟩⟩
   ·obtain⟨r1,r2⟩:=W_ l q1;rw[gold l r1]at hg;exact⟨l,q2,hg, .inl ⟨rfl,r1,r2⟩⟩
  ·obtain⟨r1,r2,_,r4⟩:=hbb l bk hbk';rw[gold l r1]at hg;exact⟨l,by rw[r2];exact hh,hg, .inl ⟨rfl,r1,r4⟩⟩
 have c3:∀b,aW N (rZ bs Ef) g' b->aW N blk g b:=by
  rintro b (hn | ⟨l,v,h1,h2,h3⟩)
  ·exact .inl hn
  ·obtain⟨c,q1,q2,_⟩:=src l v b h1 h2 h3;exact .inr ⟨c,v,q1,q2,h3⟩
 have c4:∀c,(c,true)∈mv->∀v b,g c=some v->d_ v=some b->¬aW N (rZ bs Ef) g' b:=by
  intro c hc v b hgc hb hM;have hhc:hot (blk c)=true:=hmv (c,true) hc;rcases hM with hn | ⟨l,v',h1,h2,h3⟩
  ·exact hp.afc hhc hgc hb hn
  ·obtain⟨c',q1,q2,q3⟩:=src l v' b h1 h2 h3;have:=hp.sep c c' v v' b hhc q1 hgc q2 hb h3;subst this;rcases q3 with⟨rfl,_,q⟩ | ⟨_,q,_⟩
   ·exact q (auJ hc)
   ·exact absurd (amW hnd hc q) oJ
 have hc:KQ N blk g vK mv g' (aW N (rZ bs Ef) g'):=⟨c2,c3,c4⟩;refine⟨g',⟨hp.below,hp.hN,fun l bk htab=> ?_,?_,?_,?_,hp.gl.mono c3⟩,fun t=> ?_,gold⟩
 ·unfold rZ at htab;split at htab
  ·rename_i qO hlk;injection htab with htab
   subst htab;rcases hbk l _ (rM hlk)with⟨v0,o,e,d,q1,rfl,q3⟩ | ⟨q1,q2,v0,q3,q4⟩
   ·refine⟨v0,c2 l v0 o q1,?_⟩;cases o with
    | none=>rw[q3.1];exact⟨⟨fun b hb=>by simp[d_]at hb,by have:=q3.2.1;omega,q3.2.2⟩,[],⟨by simp[q3.2.1], .inl ⟨rfl,q3.2.1⟩⟩,fun i j hi=>by have:=q3.2.1;omega⟩
    | some c=>
     obtain⟨v',hv',Ci,xs,hown,hcell⟩:=hp.dH c _ q3.1;rw[q3.2.1]at hv';injection hv' with hv'
     subst hv';refine⟨Ci,xs,hown,fun i j hi hj=> ?_⟩;obtain⟨u,k1,k3,k4⟩:=hcell i j hi hj;exact⟨u,k1,k3,Vr k3 k4 c3⟩
   ·exact⟨v0,(gold l (W_ l q1).1).trans q3,q4 g' _ hc⟩
  ·obtain⟨r1,r2,r3,r4⟩:=hbb l bk htab;obtain⟨v,hv,hok⟩:=hp.dH l bk r2;refine⟨v,(gold l r1).trans hv,?_⟩;have:=hok.ren (g':=g') (M':=aW N (rZ bs Ef) g') (f:=fun l=>l) (B':=w0) (fun l hl u hu=>(gold l (r3 l hl)).trans hu) (fun _=>c3) (fun hh b hb=>(hok.lt hh hb).2);rwa [Bk.xw]at this
 ·intro l l' v v' b h1 h2 h3 h4 h5 h6;obtain⟨c,q1,q2,q3⟩:=src l v b h1 h3 h5;obtain⟨c',q1',q2',q3'⟩:=src l' v' b h2 h4 h6;have:=hp.sep c c' v v' b q1 q1' q2 q2' h5 h6;subst this;rcases q3 with⟨e,r1,r2⟩ | ⟨r1,r2,r3⟩<;>rcases q3' with⟨e',s1,s2⟩ | ⟨s1,s2,s3⟩
  ·exact e.symm.trans e'
  ·subst e;exact absurd (auJ s2) r2
  ·subst e';exact absurd (auJ r2) s2
  ·exact ab6.inj hnd l v l' v' c r3 s3
 ·intro l v hg;have:=ab6.le;by_cases h:l < nx
  ·show l < nx';omega
  ·have hg:lookA vK l=some v:=by
    have:g' l=lookA vK l:=qC h;rw[<-this];exact hg
   obtain⟨o,ho⟩:=Fe hg;exact(ab6.rng l v o ho).2
 ·intro l v hg;by_cases h:l < nx
  ·rw[gold l h]at hg;exact hp.refs l v hg
  ·have hg:lookA vK l=some v:=by
    have:g' l=lookA vK l:=qC h;rw[<-this];exact hg
   obtain⟨o,ho⟩:=Fe hg;obtain⟨e,d,q⟩:=ab6.ok l v o ho;cases o with
   | none=>rw[q.1];rfl
   | some c=>exact hp.refs c v q.2.1
 ·unfold U6;split
  ·rename_i y hy;exact hsl t y (XM hy) g' _ hc
  ·rcases hbs t with hb | ⟨hb,hr⟩
   ·rw[hb];trivial
   ·have:=(hs t).ren (g':=g') (M':=aW N (rZ bs Ef) g') (f:=fun l=>l) (fun l hl u hu=>(gold l (hr l (hb▸hl))).trans hu) (fun _=>c3);rw[Sl.xw]at this;rw[<-hb];exact this
end
end Go.Vc

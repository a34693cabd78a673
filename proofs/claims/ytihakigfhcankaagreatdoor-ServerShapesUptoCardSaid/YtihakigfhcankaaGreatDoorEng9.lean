/- Own engine: Vdn. -/
import Derived.Test.YtihakigfhcankaaGreatDoorEng8
set_option linter.unusedVariables false
set_option linter.unusedSimpArgs false
namespace Go.Vc
open Go.RowKit
section
variable {D:Type}
def ahF (T:TypeId->Option Ty)(S:Sh D)(s:St D)(ty:TypeId)(x:Sl D):Option (Sv D):=
 match Vq T ty with
 | none=>none
 | some (e,n,sz)=>(match x with
  | .one (.lf (.opt l i j z))=>if Nat.beq i 0 && (Nat.beq j 0 && Nat.beq z sz)then(match s.blk l with
   | some (.row _ d)=>if Nat.beq sz (S.size d) && Nat.beq (S.len d) n then some (.agg (JZ S d sz 0 n))else none
   | _=>none)else none
  | _=>none)
def agc (T:TypeId->Option Ty)(S:Sh D)(s:St D):ResultVar->Option (Sv D)
 | .tmp t=>(match s.slot t with
  | .one u=>some u
  | _=>none)
 | .cell t ty=>(match CO T S s.blk ty (s.slot t)with
  | some ⟨none, .one u,_⟩=>some u
  | _=>ahF T S s ty (s.slot t))
def Fz (T:TypeId->Option Ty)(S:Sh D)(s:St D):List ResultVar->Option (List (Sv D))
 | []=>some []
 | r::rs=>(match agc T S s r,Fz T S s rs with
  | some u,some us=>some (u::us)
  | _,_=>none)
def aih:Nat->List (Sl D)->List (Nat×Sl D)
 | _,[]=>[]
 | i,x::xs=>(i,x)::aih (i+1) xs
def zn:Nat->List (Bk D)->List (Nat×Option (Bk D))
 | _,[]=>[]
 | i,x::xs=>(i,some x)::zn (i+1) xs
def St.init (args:List (Sl D))(dH:List (Bk D)):St D:=⟨aih 0 args,zn 0 dH,dH.length+64⟩
def nos:Nat->Sl D:=fun _=> .one (.lf .any)
def aqV (us:List (Sv D))(i:Nat):Sl D:=
 match us[i]? with
 | some u=> .one u
 | none=> .one (.lf .any)
def abz (is:List It)(iJ:Nat)(keep:List Nat)(us:List (Sv D))(s:St D):Option (List (List (Lf D))):=
 match CZ (aqV us) s.blk is with
 | none=>none
 | some (cs,mv)=>if Uw (mv.map (·.1)) && (mv.all fun p=> !rC p.1 (is.flatMap It.ids)) && ((is.flatMap It.ids).all fun l=>Nat.blt l iJ) &&
   (keep.all fun i=>Nat.blt i iJ && !rC i ((s.blks.take (s.blks.length - iJ)).map (·.1)) && !rC i (mv.map (·.1)))then some cs else none
def acS (S:Sh D)(us:List (Sv D))(s:St D):List (Sv D)×St D:=
 match us with
 | [.lf (.part q i j sz _)]=>(match s.blk q with
  | some (.row e d)=>if Nat.beq i 0 && Nat.beq sz (S.size d)then(match S.sub d 0 j with
   | some d'=>([.lf (.own s.next)],⟨s.tmps,(s.next,some (.row e d'))::(q,none)::s.blks,s.next+1⟩)
   | none=>(us,s))else(us,s)
  | _=>(us,s))
 | _=>(us,s)
def aiH (S:Sh D)(is:List It)(iJ:Nat)(keep:List Nat)(us:List (Sv D))(s:St D):Option (List (List (Lf D))):=
 match abz is iJ keep us s with
 | some cs=>some cs
 | none=>abz is iJ keep (acS S us s).1 (acS S us s).2
def arK (T:TypeId->Option Ty)(S:Sh D)(rs:List ResultVar)(RS:FU D)(iJ:Nat)(keep:List Nat)(s:St D):Tr D RS.X:=
 match Fz T S s rs with
 | none=> .halt 603 s
 | some us=>(match aiH S (RS.its nos) iJ keep us s with
  | none=> .halt 602 s
  | some cs=>(match RS.dec cs with
   | none=> .halt 601 s
   | some x=> .ret x))
def aGS (T:TypeId->Option Ty)(S:Sh D)(rs:List ResultVar)(RS:FU D)(iJ:Nat)(keep:List Nat):Ex->St D->Tr D RS.X
 | .normal,s=>arK T S rs RS iJ keep s
 | .ret,s=>arK T S rs RS iJ keep s
 | .exit _,s=> .halt 604 s
def aqS (ss:List (Nat×Sl D))(i:Nat):Sv D:=
 match Ox ss i with
 | some (.one u)=>u
 | _=> .lf .any
def PT (ss:List (Nat×Sl D)):Nat->Nat->List (Sv D)
 | _,0=>[]
 | i,k+1=>aqS ss i::PT ss (i+1) k
def RD (ss:List (Nat×Sl D))(k:Nat):Sl D:=
 match k with
 | 1=> .one (aqS ss 0)
 | k=> .xx (PT ss 0 k)
structure vJ (D:Type):Type 1 where
 A:Type
 enc:A->List (Sl D)×List (Bk D)
 dec:List (Sl D)->List (Bk D)->Option A
def Lf.anz:Lf D->Bool
 | .val _ | .xt _=>false
 | _=>true
def aqw:Bk D->Bool
 | .cells cs=>cs.all Lf.anz
 | _=>true
def vV (dH:List (Bk D))(l:Nat):Bool:=
 match dH[l]? with
 | some bk=>aqw bk
 | none=>true
def akR (dH:List (Bk D))(keep:List Nat):List Nat:=keep.filter fun l=>vV dH l
def U5 (dH enc:List (Bk D)):List Nat->List (Nat×Bk D)
 | []=>[]
 | l::r=>(match vV dH l,enc[l]? with
  | false,some bk=>(l,bk)::U5 dH enc r
  | _,_=>U5 dH enc r)
def oL (AS:vJ D)(RS:FU D)(k:Nat)(keep:List Nat)(pre:AS.A->Option Prop)(f:AS.A->RS.X):Ct D:=fun args dH=>
 match AS.dec args dH with
 | none=>none
 | some a=>some ((pre a).map dq,RD (fH (RS.its nos) (RS.enc (f a)) dH.length).1 k,(fH (RS.its nos) (RS.enc (f a)) dH.length).2.1++U5 dH (AS.enc a).2 keep,akR dH keep)
def KR (S:Sh D):List (Lf D)->List (Lf D)->Prop
 | [],[]=>True
 | x::xs,y::ys=>x.Le S y/\KR S xs ys
 | _,_=>False
def auo (S:Sh D):Sv D->Sv D->Prop
 | .lf x, .lf y=>x.Le S y
 | .agg xs, .agg ys=>KR S xs ys
 | _,_=>False
def Y4 (S:Sh D):List (Sl D)->List (Sl D)->Prop
 | [],[]=>True
 | .one x::xs, .one y::ys=>auo S x y/\Y4 S xs ys
 | _,_=>False
def ab3 (S:Sh D):Bk D->Bk D->Prop
 | .cells xs, .cells ys=>KR S xs ys
 | .row e d, .row e' d'=>e=e'/\d=d'
 | .wE d, .wE d'=>d=d'
 | .iter s p, .iter s' p'=>s=s'/\p=p'
 | .map a, .map b=>a=b
 | .tc t xs, .tc t' ys=>t=t'/\xs=ys
 | _,_=>False
def Gt (S:Sh D):List (Bk D)->List (Bk D)->Prop
 | [],[]=>True
 | x::xs,y::ys=>ab3 S x y/\Gt S xs ys
 | _,_=>False
structure OY (S:Sh D)(AS:vJ D)(iJ n:Nat):Prop where
 ok:∀args dH a,AS.dec args dH=some a->Y4 S args (AS.enc a).1/\Gt S dH (AS.enc a).2
 iJ:∀a,(AS.enc a).2.length=iJ
 args:∀a,(AS.enc a).1.length<=n
end
section
variable {D:Type}{P:Program}{S:Sh D}{T:TypeId->Option Ty}{Γ:FuncId->Option (Ct D)}{N:Nat->Prop}{w w':World}{w0:Bs}{g0:Nat->Option Value}{n:Nat}
theorem iw.length {M:Nat->Prop}{g:Nat->Option Value}:∀{xs:List (Sl D)} {vs:List Value},iw S M w g xs vs->xs.length=vs.length
 | [],[],_=>rfl
 | _::_,_::_,h=>by simp[iw.length h.2]
theorem aeA {M:Nat->Prop}{g:Nat->Option Value}:∀(xs:List (Sl D)) (vs:List Value) (i:Nat) (f:Nat->Value),iw S M w g xs vs->(∀j v,vs[j]? =some v->f (i+j)=v)->∀t,(look (.one (.lf .any)) (aih i xs) t).Rel S M w g (f t)
 | [],_,_,_,_,_,_=>trivial
 | x::xs,v::vs,i,f,h,hf,t=>by
  simp only[aih,look];split
  ·rename_i ht;have ht:=Qa ht;subst ht;have:=hf 0 v rfl;simp only[MB]at this;rw[this];exact h.1
  ·exact aeA xs vs (i+1) f h.2 (fun j u hj=>by have:=hf (j+1) u qb7;rwa [show i+(j+1)=i+1+j by omega]at this) t
theorem UI:∀(dH:List (Bk D)) (i l:Nat),look none (zn i dH) l=if i<=l then dH[l - i]? else none
 | [],i,l=>by simp[zn,look]
 | b::dH,i,l=>by
  simp only[zn,look];by_cases h:l=i
  ·subst h;simp
  ·have:¬(l.beq i=true):=fun e=>h (Qa e)
   rw[qC this,UI dH (i+1) l];by_cases hl:i<=l
   ·rw[Qb hl,Qb au,show l - i=(l - (i+1))+1 by omega];rfl
   ·rw[qC hl,qC au]
theorem Ns (dH:List (Bk D)):look none (zn 0 dH)=kQ dH:=by
 funext l;rw[UI];simp[kQ]
theorem GR {args:List Value}{nT:List (Sl D)}{dH:List (Bk D)}(hp:Hp S w0 N (kQ dH) g0 (· < dH.length) w)(hr:iw S (aW N (kQ dH) g0) w g0 nT args)(hle:nT.length<=n):
  n_ S w0 g0 N n (St.init nT dH) {tmps:=args.toArray++Array.replicate (n - args.toArray.size) undef,defers:=[]} w:=by
 have hl:=hr.length;have hb:(St.init nT dH).blk=kQ dH:=Ns dH;refine⟨g0,by rw[hb];exact hp.weaken fun l hl=>by simp only[St.init];omega,fun t=> ?_,by simp;omega,rfl,More.refl _⟩;rw[hb];refine aeA nT args 0 (fun t=>(args.toArray++Array.replicate (n - args.toArray.size) undef).getD t undef) hr (fun j v hj=> ?_) t;have hlt:j < args.length:=(Qaz.1 hj).1;have hv:args[j]=v:=by simpa[Wy hlt]using hj
 simp only[BZ,Array.getD];have:j < (args.toArray++Array.replicate (n - args.toArray.size) undef).size:=by simp;omega
 rw[dif_pos this];show(args.toArray++Array.replicate (n - args.toArray.size) undef)[j]=v
 rw[Array.getElem_append_left (by simpa using hlt)];simpa using hv
def LQ (tmps:Array Value):ResultVar->Sem Value
 | .tmp t=>pure (tmps.getD t undef)
 | .cell a t=>do loadVar t (<-asAddr (tmps.getD a undef))
theorem afI {s:St D}{g:Nat->Option Value}{ty:TypeId}{x:Sl D}{xv:Value}{u:Sv D}(hTy:∀t ty,T t=some ty->fU P t ty)(hp:Hp S w0 N s.blk g (· < s.next) w)(hx:x.Rel S (aW N s.blk g) w g xv)
  (h:ahF T S s ty x=some u):∃ad v,xv= .pointer (some ad)/\(loadVar ty ad).run P w= .ok v w/\u.Rel S (aW N s.blk g) w g v:=by
 unfold ahF at h;split at h
 ·cases h
 ·rename_i e n sz harr;obtain⟨ty',te,hty,hte,hsz,h0,VX,hag,xK,hok,Ii⟩:=wZ hTy harr;have hagg:=w_ hok w;have Px:=kH hok w;split at h
  ·rename_i l i j z;obtain⟨b,n',cap,hg,hv⟩:=hx;split at h
   ·rename_i hc;obtain⟨rfl,rfl,rfl⟩:=aB3 hc;split at h
    ·rename_i e' d hb;split at h
     ·rename_i hs;simp only[jY]at hs;have hl0:=Qa hs.2;have hs:=Qa hs.1;injection h with h
      subst h;obtain⟨vs,hl,hr,hc⟩:=yj (S:=S) (M:=aW N s.blk g) (w:=w) (g:=g) (d:=d) (ad:=⟨b,0,none⟩) (sz:=z) n 0 (fun r hr=>by
       obtain⟨vs,h1,h2,h3⟩:=wH hp hb hg (i:=0+r) au z 0 au;refine⟨vs,h1,h2,fun k u hk=> ?_⟩;have:=h3 k u hk;rw[lq];rw[<-hs]at this;simpa using this)
      have hrun:=run_loadCells (P:=P) (w:=w) ⟨b,0,none⟩ vs 0 #[] (fun k u hk=>by have:=hc k u hk;simpa using this);rw[hl,<-VX]at hrun;refine⟨⟨b,0,none⟩, .agg vs.toArray,by rw[hv];simp,?_,⟨_,rfl,hr⟩⟩;simp[loadVar,hagg,hag,Px,loadCells,hrun]
     ·cases h
    ·cases h
   ·cases h
  ·cases h
theorem CX {s:St D}{a:Act}{g:Nat->Option Value}(hTy:∀t ty,T t=some ty->fU P t ty)(hp:Hp S w0 N s.blk g (· < s.next) w)(hs:∀t,(s.slot t).Rel S (aW N s.blk g) w g (a.tmps.getD t undef)):
  ∀(rs:List ResultVar) (us:List (Sv D)),Fz T S s rs=some us->∃vs,(rs.mapM (LQ a.tmps)).run P w= .ok vs w/\iI S (aW N s.blk g) w g us vs
 | [],us,h=>by
  injection h with h
  subst h;exact⟨[],rfl,trivial⟩
 | r::rs,us,h=>by
  unfold Fz at h;split at h
  ·rename_i u us' hu hus;injection h with h
   subst h;obtain⟨vs,hrun,hrel⟩:=CX hTy hp hs rs us' hus;have:∃v,(LQ a.tmps r).run P w= .ok v w/\u.Rel S (aW N s.blk g) w g v:=by
    cases r with
    | tmp t=>
     simp only[agc]at hu;split at hu
     ·rename_i x hx;injection hu with hu
      subst hu;have:=hs t;rw[hx]at this;exact⟨_,rfl,this⟩
     ·cases hu
    | cell t ty=>
     simp only[agc]at hu;split at hu
     ·rename_i x b hx;injection hu with hu
      subst hu;cases hTT:T ty with
      | none=>simp[CO,hTT]at hx
      | some tyv=>
       obtain⟨ad,v,hv,hr,hrl⟩:=ami (hTy _ _ hTT) hTT hp (hs t) hx trivial;exact⟨v,by simp only[LQ,hv,asAddr,Sem.run_bind,Sem.run_pure,Result.andThen_ok];exact hr,hrl⟩
     ·obtain⟨ad,v,hv,hr,hrl⟩:=afI hTy hp (hs t) hu;exact⟨v,by simp only[LQ,hv,asAddr,Sem.run_bind,Sem.run_pure,Result.andThen_ok];exact hr,hrl⟩
   obtain⟨v,hv,hrv⟩:=this;refine⟨v::vs,?_,hrv,hrel⟩;simp only[List.mapM_cons,Sem.run_bind,hv,Result.andThen_ok,hrun,Sem.run_pure]
  ·cases h
theorem OC {M:Nat->Prop}{g:Nat->Option Value}{ss:List (Nat×Sl D)}{vs:List Value}(h:∀i v,vs[i]? =some v->(aqS ss i).Rel S M w g v):∀(k i:Nat),i+k=vs.length->iI S M w g (PT ss i k) (vs.drop i)
 | 0,i,e=>by
  rw[Qd0 au];trivial
 | k+1,i,e=>by
  have hi:i < vs.length:=by omega
  rw[Qbm hi];exact⟨h i _ (by simp[hi]),OC h k (i+1) au⟩
theorem XX {M:Nat->Prop}{g:Nat->Option Value}:∀{us:List (Sv D)} {vs:List Value},iI S M w g us vs->∀i,(aqV us i).Rel S M w g (vs.getD i undef)
 | [],[],_,i=>trivial
 | u::us,v::vs,h,0=>h.1
 | u::us,v::vs,h,i+1=>XX h.2 i
theorem apn (hS:jd S){s:St D}{g:Nat->Option Value}{us:List (Sv D)}{vs:List Value}(hp:Hp S w0 N s.blk g (· < s.next) w)(hrel:iI S (aW N s.blk g) w g us vs):
  ∃g',Hp S w0 N (acS S us s).2.blk g' (· < (acS S us s).2.next) w/\iI S (aW N (acS S us s).2.blk g') w g' (acS S us s).1 vs/\More g g'/\∃pre,(acS S us s).2.blks=pre++s.blks:=by
 have stay:∃g',Hp S w0 N s.blk g' (· < s.next) w/\iI S (aW N s.blk g') w g' us vs/\More g g'/\∃pre,s.blks=pre++s.blks:=⟨g,hp,hrel,More.refl _,[],rfl⟩;unfold acS;split
 ·rename_i q i j sz f;split
  ·rename_i e d hb;split
   ·rename_i hc;split
    ·rename_i d' hd;simp only[jY]at hc;have c1:=Qa hc.1;have c2:=Qa hc.2;subst c1 c2;match vs,hrel with
     | [v],⟨hv,_⟩=>
      obtain⟨a,n,cap,hg,hv,hij,hjn,_⟩:=hv;obtain⟨u,hu,hm,xs,own,cells⟩:=hp.dH q _ hb;rw[hg]at hu;injection hu with hu
      subst hu;have hn:n=S.len d:=by
       rcases own.2 with⟨e0,h0⟩ | ⟨b,cp,cur,e0,_⟩
       ·injection e0 with _ e1 _;omega
       ·injection e0
      obtain⟨s1,s2,s3⟩:=hS.sub _ _ _ _ hd (uN _) au;rw[Nat.sub_zero]at s2 s3;have key:(∀c,d_ v=some c->d_ (.slice a n cap)=some c)/\w.ownsRow 0 e (S.size d) v j (xs.take (j*S.size d)):=by
       have hle:j*S.size d<=S.len d*S.size d:=L8 _ au;have hx:(xs.take (j*S.size d)).length=j*S.size d:=by rw[uP,own.1];omega
       rcases own.2 with⟨e0,h0⟩ | ⟨b,cp,cur,e0,_,hh,h1,h2,h3,h4⟩
       ·injection e0 with e1 e2 e3
        subst e1 e2 e3;have hj:j=0:=by omega
        subst hj;refine⟨fun c hc=>by rw[hv]at hc;simp[sliced,d_]at hc,hx, .inl ⟨by rw[hv];simp[sliced],rfl⟩⟩
       ·injection e0 with e1 e2 e3
        subst e1 e3;have hvv:v= .slice (some ⟨b,0,none⟩) j cap:=by
         rw[hv];unfold sliced;split<;>simp[Addr.add]
        refine⟨fun c hc=>by rw[hvv]at hc;exact hc,hx, .inr ⟨b,cap,cur,hvv,uN _,hh,by omega,h2,h3,?_⟩⟩;rw[<-h4,Qc8];congr 1;omega
      have hal:∀u,More g (upd g s.next (some u)):=by
       intro u q' y hq;have:q'≠s.next:=fun e=>absurd (hp.al q' y hq) (by subst e;simp)
       rw[bK _ _ _ _ this];exact hq
      obtain⟨g1,g2,g3⟩:=hp.move (l:=q) (fr:=s.next) (bk':= .row e d') (v:= .slice a n cap) (v':=v) qch hg oJ rfl rfl rfl (lU _) (fun _ _ _=>rfl) (fun c hc=> .inl (key.1 c hc))
       (fun M' hk _=>by
        refine⟨⟨fun c hc=>hm.1 c (key.1 c hc),by rw[s2];have:=hm.2.1;omega,(hS.Gx _ _ _ _ hd).2⟩,_,by rw[s1,s2];exact key.2,fun k c hk' hc'=> ?_⟩;rw[s2]at hk';rw[s1]at hc'⊢;obtain⟨y,hy,hda,hr⟩:=cells k c au hc';have e3:=s3 k c hk';rw[BZ]at e3;refine⟨y,?_,by rw[e3];exact hda,by rw[e3];exact hr.keep hk (hal _)⟩;rw[LD,Qb (nU hk' hc')];exact hy)
      have hbl:(⟨s.tmps,(s.next,some (.row e d'))::(q,none)::s.blks,s.next+1⟩:St D).blk=upd (upd s.blk q none) s.next (some (.row e d')):=by
       funext l;simp only[St.blk,look,upd];by_cases h1:l=s.next
       ·subst h1;simp
       ·have h1':¬(l.beq s.next=true):=fun e=>h1 (Qa e)
        by_cases h2:l=q
        ·subst h2;simp[h1,h1']
        ·have h2':¬(l.beq q=true):=fun e=>h2 (Qa e)
         simp[h1,h2,h1',h2']
      refine⟨upd g s.next (some v),?_,?_,g3,[(s.next,some (.row e d')),(q,none)],rfl⟩
      ·show Hp S w0 N (St.blk _) _ _ w
       rw[hbl];exact g1.weaken fun l hl=>by
        show l < s.next+1
        rcases hl with hl | hl<;>omega
      ·show iI S (aW N (St.blk _) _) w _ _ _
       rw[hbl];exact⟨upd_same _ _ _,trivial⟩
    ·exact stay
   ·exact stay
  ·exact stay
 ·exact stay
theorem anv (hS:jd S){s:St D}{a:Act}{fn:Func}{RS:FU D}{iJ:Nat}{keep:List Nat}{dH:List (Bk D)}{x:RS.X}(hTy:∀t ty,T t=some ty->fU P t ty)(hRS:qN S RS)(hlt:∀l v,g0 l=some v->l < iJ)(hlen0:dH.length=iJ)(hrf:∀(l:Nat) (bk:Bk D),dH[l]? =some bk->∀r∈bk.refs,r < iJ)(hpre:∃pre,s.blks=pre++zn 0 dH)(h:n_ S w0 g0 N n s a w){e0:RS.X}(hr:(arK T S fn.results.toList RS iJ keep s).run e0=some x):
  a.defers=[]/\∃v,(results fn a.tmps).run P w= .ok v w/\∃g',More g0 g'/\Hp S w0 N (rZ (fH (RS.its nos) (RS.enc x) iJ).2.1 (fun l=>if l∈keep then dH[l]? else none)) g' (fun _=>True) w/\
   (RD (fH (RS.its nos) (RS.enc x) iJ).1 fn.results.toList.length).Rel S (aW N (rZ (fH (RS.its nos) (RS.enc x) iJ).2.1 (fun l=>if l∈keep then dH[l]? else none)) g') w g' v:=by
 obtain⟨g,hp,hs,hn,hdf,hm⟩:=h;unfold arK at hr;split at hr
 ·cases hr
 rename_i us hus;split at hr
 ·cases hr
 rename_i cs hcs;split at hr
 ·cases hr
 rename_i x' hx';injection hr with hr
 subst hr;obtain⟨vs,hrun,hrel⟩:=CX hTy hp hs _ us hus;have aHn:us.length=fn.results.toList.length:=by
  clear hrun hcs hx' hrel;generalize fn.results.toList=rs at hus;induction rs generalizing us with
  | nil=>injection hus with hus;subst hus;rfl
  | cons r rs ih=>
   unfold Fz at hus;split at hus
   ·rename_i u us' _ h2;injection hus with hus
    subst hus;simp[ih us' h2]
   ·cases hus
 have hlen:vs.length=fn.results.toList.length:=by rw[<-hrel.length];exact aHn
 refine⟨hdf,if h:vs.toArray.size=1 then vs.toArray[0]else .tuple vs.toArray,?_,?_⟩
 ·unfold results;rw[Sem.run_bind,Qdp,Sem.run_map];change (((Sem.run P (fn.results.toList.mapM (LQ a.tmps)) w).andThen fun a w'=>Result.ok a.toArray w').andThen _)=_;rw[hrun];rfl
 have two:∃(us1:List (Sv D)) (s1:St D) (g1:Nat->Option Value),abz (RS.its nos) iJ keep us1 s1=some cs/\Hp S w0 N s1.blk g1 (· < s1.next) w/\iI S (aW N s1.blk g1) w g1 us1 vs/\More g g1/\∃pre,s1.blks=pre++s.blks:=by
  unfold aiH at hcs;split at hcs
  ·rename_i cs' h1;injection hcs with hcs
   subst hcs;exact⟨us,s,g,h1,hp,hrel,More.refl _,[],rfl⟩
  ·obtain⟨g1,k1,k2,k3,k4⟩:=apn hS hp hrel;exact⟨_,_,g1,hcs,k1,k2,k3,k4⟩
 obtain⟨us,s1,g1,hcs,hp,hrel,hm1,aIB,aHs⟩:=two;unfold abz at hcs;split at hcs
 ·cases hcs
 rename_i cs0 mv hab;split at hcs
 ·rename_i hc;injection hcs with hcs
  subst hcs;simp only[jY]at hc;obtain⟨⟨⟨c1,c2⟩,c3⟩,c4⟩:=hc;have c4:∀i∈keep,i < iJ/\i∉(s1.blks.take (s1.blks.length - iJ)).map (·.1)/\i∉mv.map (·.1):=fun i hi=>by
   have:=MX.1 c4 i hi;simp only[jY,Qbi]at this;exact⟨by simpa[Gf]using this.1.1,Jk this.1.2,Jk this.2⟩
  obtain⟨aIA,hpre0⟩:=hpre;obtain⟨pre,hpre⟩:∃pre,s1.blks=pre++zn 0 dH:=⟨aIB++aIA,by rw[aHs,hpre0,Qba]⟩;have hil:∀(dH:List (Bk D)) (i:Nat),(zn i dH).length=dH.length:=fun dH=>by
   induction dH with
   | nil=>intro i;rfl
   | cons b r ih=>intro i;simp[zn,ih]
  have hkeys:(s1.blks.take (s1.blks.length - iJ)).map (·.1)=pre.map (·.1):=by
   rw[hpre];simp[hil,hlen0]
  obtain⟨g',hp',hs',hg'⟩:=acj (slot:=aqV us) (val:=fun t=>vs.getD t undef) (nx:=iJ) (Ad:=fun _=> .one (.lf .any)) (Ef:=fun l=>if l∈keep then dH[l]? else none) hS hp (XX hrel) hab (hRS.ok _ _ hx') (Prod.eta _).symm (MQ c1)
   (fun l hl=>⟨by have:=MX.1 c3 l hl;simpa[Gf]using this,fun hm'=>by
    obtain⟨p,hp',rfl⟩:=Ik.1 hm';have:=MX.1 c2 p hp';simp only[Qbi]at this;exact Jk this hl⟩) (fun _=> .inl rfl) (fun l bk hb=>by
    split at hb
    ·rename_i hk;obtain⟨k1,k2,k3⟩:=c4 l hk;refine⟨k1,?_,hrf l bk hb,k3⟩;rw[hkeys]at k2;show look none s1.blks l=some bk
     rw[hpre,qf,qC k2,Ns];exact hb
    ·cases hb)
  refine⟨g',fun l v hl=>(hg' l (hlt l v hl)).trans (hm1 l v (hm l v hl)),hp'.weaken fun _ _=>trivial,?_⟩;have one:∀i v,vs[i]? =some v->(aqS (fH (RS.its nos) (RS.enc x') iJ).1 i).Rel S (aW N (rZ (fH (RS.its nos) (RS.enc x') iJ).2.1 (fun l=>if l∈keep then dH[l]? else none)) g') w g' v:=by
   intro i v hv;have:=hs' i;simp only[List.getD,hv,Qc9]at this;unfold U6 at this;unfold aqS;split at this
   ·rename_i y hy;rw[hy];cases y with
    | one u=>exact this
    | xx us=>trivial
   ·rename_i hy;rw[hy];trivial
  rw[<-hlen];by_cases h1:vs.length=1
  ·rw[dif_pos qcv];cases vs with
   | nil=>simp at h1
   | cons v vs=>
    cases vs with
    | cons _ _=>simp at h1
    | nil=>exact one 0 v rfl
  ·rw[dif_neg qcv];have hk:RD (fH (RS.its nos) (RS.enc x') iJ).1 vs.length= .xx (PT (fH (RS.its nos) (RS.enc x') iJ).1 0 vs.length):=by
    unfold RD;split
    ·rename_i e;exact absurd e h1
    ·rfl
   rw[hk];exact⟨vs,rfl,by simpa using OC one vs.length 0 au⟩
 ·cases hcs
theorem KR.rel {M:Nat->Prop}{g:Nat->Option Value}:∀{xs ys:List (Lf D)} {vs:List Value},KR S xs ys->aZ S M w g xs vs->aZ S M w g ys vs
 | [],[],[],_,_=>trivial
 | _::_,_::_,_::_,h,hr=>⟨Lf.Le.rel h.1 hr.1,KR.rel h.2 hr.2⟩
theorem auo.rel {M:Nat->Prop}{g:Nat->Option Value}{x y:Sv D}{v:Value}(h:auo S x y)(hr:x.Rel S M w g v):y.Rel S M w g v:=by
 cases x with
 | lf x=>
  cases y with
  | lf y=>exact Lf.Le.rel h hr
  | agg ys=>exact h.elim
 | agg xs=>
  cases y with
  | lf y=>exact h.elim
  | agg ys=>obtain⟨vs,e,hr⟩:=hr;exact⟨vs,e,KR.rel h hr⟩
theorem Y4.rel {M:Nat->Prop}{g:Nat->Option Value}:∀{xs ys:List (Sl D)} {vs:List Value},Y4 S xs ys->iw S M w g xs vs->iw S M w g ys vs
 | [],[],[],_,_=>trivial
 | .one x::xs, .one y::ys,v::vs,h,hr=>⟨auo.rel h.1 hr.1,Y4.rel h.2 hr.2⟩
theorem ab3.hot {x y:Bk D}(h:ab3 S x y):hot (some x)=hot (some y):=by cases x<;>cases y<;>first | rfl | exact h.elim
theorem ab3.ok {M:Nat->Prop}{g:Nat->Option Value}{B:Bs}{x y:Bk D}{v:Value}(h:ab3 S x y)(hr:xJ S M w g B x v):xJ S M w g B y v:=by
 cases x with
 | cells xs=>
  cases y with
  | cells ys=>obtain⟨b,vs,t,h1,h2,h3,h4⟩:=hr;exact⟨b,vs,t,h1,h2,h3,KR.rel h h4⟩
  | _=>exact h.elim
 | row e d=>
  cases y with
  | row e' d'=>obtain⟨rfl,rfl⟩:=h;exact hr
  | _=>exact h.elim
 | wE d=>
  cases y with
  | wE d'=>have h:d=d':=h;subst h;exact hr
  | _=>exact h.elim
 | iter s p=>
  cases y with
  | iter s' p'=>obtain⟨rfl,rfl⟩:=h;exact hr
  | _=>exact h.elim
 | map a=>
  cases y with
  | map b=>have h:a=b:=h;subst h;exact hr
  | _=>exact h.elim
 | tc t xs=>
  cases y with
  | tc t' ys=>obtain⟨rfl,rfl⟩:=h;exact hr
  | _=>exact h.elim
theorem Gt.at:∀{xs ys:List (Bk D)},Gt S xs ys->xs.length=ys.length/\∀(i:Nat) (y:Bk D),ys[i]? =some y->∃x,xs[i]? =some x/\ab3 S x y
 | [],[],_=>⟨rfl,fun i y h=>by simp at h⟩
 | x::xs,y::ys,h=>by
  obtain⟨h1,h2⟩:=Gt.at h.2;refine⟨by simp[h1],fun i y' hi=> ?_⟩;cases i with
  | zero=>simp at hi;subst hi;exact⟨x,rfl,h.1⟩
  | succ i=>simpa using h2 i y' qcm
theorem Gt.hp {g:Nat->Option Value}{al:Nat->Prop}{xs ys:List (Bk D)}(h:Gt S xs ys)(hp:Hp S w0 N (kQ xs) g al w):Hp S w0 N (kQ ys) g al w/\aW N (kQ ys) g=aW N (kQ xs) g:=by
 obtain⟨hl,hat⟩:=h.at;have aD9:∀l,hot (kQ ys l)=hot (kQ xs l):=fun l=>by
  unfold kQ;cases hy:ys[l]? with
  | none=>
   have:xs[l]? =none:=by
    rw[List.getElem?_eq_none_iff]at hy⊢;omega
   rw[this]
  | some y=>
   obtain⟨x,hx,hle⟩:=hat l y hy;rw[hx];exact hle.hot.symm
 have hM:aW N (kQ ys) g=aW N (kQ xs) g:=by
  funext b;simp only[aW,aD9]
 refine⟨⟨hp.below,hp.hN,fun l bk hb=> ?_,fun l l' v v' b h1 h2=>hp.sep l l' v v' b (by rw[<-aD9];exact h1) (by rw[<-aD9];exact h2),hp.al,hp.refs,by rw[hM];exact hp.gl⟩,hM⟩;obtain⟨x,hx,hle⟩:=hat l bk hb;obtain⟨v,hv,hok⟩:=hp.dH l x hx;exact⟨v,hv,by rw[hM];exact hle.ok hok⟩
theorem KR.eq:∀{xs ys:List (Lf D)},KR S xs ys->xs.all Lf.anz=true->ys=xs
 | [],[],_,_=>rfl
 | x::xs,y::ys,h,hd=>by
  simp only[Qcx,jY]at hd;have e:y=x:=by
   rcases h.1 with h | ⟨h,_⟩ | ⟨b,h,_⟩ | ⟨_,_,_,_,h,_⟩ | ⟨_,h,_⟩
   ·exact h.symm
   ·rw[h]at hd;simp[Lf.anz]at hd
   ·rw[h]at hd;simp[Lf.anz]at hd
   ·rw[h]at hd;simp[Lf.anz]at hd
   ·rw[h]at hd;simp[Lf.anz]at hd
  rw[e,KR.eq h.2 hd.2]
theorem ab3.eq {x y:Bk D}(h:ab3 S x y)(he:aqw x=true):y=x:=by
 cases x with
 | cells xs=>
  cases y with
  | cells ys=>rw[KR.eq h he]
  | _=>exact h.elim
 | row e d=>
  cases y with
  | row e' d'=>obtain⟨rfl,rfl⟩:=h;rfl
  | _=>exact h.elim
 | wE d=>
  cases y with
  | wE d'=>have h:d=d':=h;rw[h]
  | _=>exact h.elim
 | iter s p=>
  cases y with
  | iter s' p'=>obtain⟨rfl,rfl⟩:=h;rfl
  | _=>exact h.elim
 | map a=>
  cases y with
  | map b=>have h:a=b:=h;rw[h]
  | _=>exact h.elim
 | tc t xs=>
  cases y with
  | tc t' ys=>obtain⟨rfl,rfl⟩:=h;rfl
  | _=>exact h.elim
theorem ZY (a b:List (Nat×Bk D))(l:Nat):jW (a++b) l=match jW a l with
  | some bk=>some bk
  | none=>jW b l:=by
 induction a with
 | nil=>rfl
 | cons p r ih=>
  obtain⟨k,v⟩:=p;simp only[Qbu,jW];split
  ·rfl
  ·exact ih
theorem UW {dH enc:List (Bk D)}{l:Nat}:∀{keep:List Nat},jW (U5 dH enc keep) l=if l∈keep/\vV dH l=false then enc[l]? else none
 | []=>by simp[U5,jW]
 | k::r=>by
  unfold U5;have ih:=UW (dH:=dH) (enc:=enc) (l:=l) (keep:=r);by_cases hk:k=l
  ·subst hk;cases he:vV dH k with
   | true=>simp only[he]at ih⊢;simpa using ih
   | false=>
    cases hx:enc[k]? with
    | none=>simp only[hx,he]at ih⊢;rw[ih];simp
    | some bk=>simp[jW,hx]
  ·have hk':¬l=k:=fun e=>hk e.symm
   have hb:Nat.beq k l=false:=by
    cases e:Nat.beq k l with
    | false=>rfl
    | true=>exact absurd (Qa e) hk
   have e2:(l∈k::r/\vV dH l=false) ↔ (l∈r/\vV dH l=false):=by simp[hk']
   split
   ·simp only[jW,hb,ih,e2];rfl
   ·simp only[ih,e2]
theorem asG {dH enc:List (Bk D)}{post:List (Nat×Bk D)}{keep:List Nat}(h:Gt S dH enc):uO (post++U5 dH enc keep) (akR dH keep) dH=rZ post (fun l=>if l∈keep then enc[l]? else none):=by
 funext l;obtain⟨hl,hat⟩:=h.at;unfold uO rZ;rw[ZY];cases hp:jW post l with
 | some bk=>rfl
 | none=>
  dsimp only;rw[UW];have hmem:rC l (akR dH keep)=decide (l∈keep/\vV dH l=true):=by
   rw[Qb5,gX];simp[akR]
  rw[hmem];by_cases hk:l∈keep
  ·cases hx:vV dH l with
   | false=>
    simp only[hk,true_and,if_true];cases he:enc[l]? with
    | some bk=>rfl
    | none=>simp
   | true=>
    simp only[hk,true_and,if_true,Bool.true_eq_false,if_false,decide_true];cases he:enc[l]? with
    | none=>
     rw[List.getElem?_eq_none_iff]at he⊢;omega
    | some y=>
     obtain⟨x,hx1,hle⟩:=hat l y he;rw[hx1];unfold vV at hx;rw[hx1]at hx;rw[hle.eq hx]
  ·simp[hk]
theorem aDp {f:FuncId}{fn:Func}{c:Code}{n:Nat}{rs:List ResultVar}{J:Nat->Option (FU D)}(hmx:P.follows .mixedOrders=true)(hTy:∀t ty,T t=some ty->fU P t ty)(hΓ:∀f ct,Γ f=some ct->fV P S f ct)(hS:jd S)(hJ:∀i sh,J i=some sh->qN S sh)
  (hf:P.funcs[f]? =some fn) (hb:fn.body=some c) (hnm:(fn.name== "runtime.NumGoroutine")=false) (hn:fn.ntmps=n) (hrs:fn.results.toList=rs) (hdr:qU c=true)
  {AS:vJ D} {RS:FU D} {iJ:Nat} {keep:List Nat} (hAS:OY S AS iJ n) (hRS:qN S RS) (pre:AS.A->Option Prop) (fv:AS.A->RS.X)
  (hrun:∀a,ql (pre a)->(U_ T S Γ n J c RS.X (St.init (AS.enc a).1 (AS.enc a).2) (aGS T S rs RS iJ keep)).run (fv a)=some (fv a)):fV P S f (oL AS RS rs.length keep pre fv):=by
 subst hn hrs;refine⟨fun args w=> ?_,fun X N g w args nT dH p r post kp hp hrel hc hpre=> ?_⟩
 ·have hnm':¬fn.name= "runtime.NumGoroutine" :=by simpa using hnm
  simp[callFunc,hf,hnm',hb]
 ·unfold oL at hc;split at hc
  ·cases hc
  rename_i a ha;injection hc with hc
  injection hc with q1 hc
  injection hc with q2 hc
  injection hc with q3 q4
  subst q1 q2 q3 q4;obtain⟨l1,l2⟩:=hAS.ok nT dH a ha;have hlen:dH.length=iJ:=by rw[l2.at.1];exact hAS.iJ a
  obtain⟨hp2,hM⟩:=l2.hp hp;have aAl:=l1.rel hrel;rw[<-hM]at aAl;have hlt:∀l v,g l=some v->l < iJ:=fun l v hl=>by rw[<-hlen];exact hp.al l v hl
  have hal:Hp S ⟨w,X⟩ N (kQ (AS.enc a).2) g (· < (AS.enc a).2.length) w:=hp2.weaken fun l hl=>by rw[<-l2.at.1];exact hl
  rw[hlen,asG l2];refine calls_of_wp hf hb (Vl hJ hmx hTy hΓ hS (w0:=⟨w,X⟩) (N:=N) c _ _ _ _ _ _ _ w hdr (hrun a (C_.1 hpre)) (GR hal aAl (hAS.args a)) fun e s' a' w' h' hpb _ hk=> ?_);have hrf:∀(l:Nat) (bk:Bk D),(AS.enc a).2[l]? =some bk->∀r∈bk.refs,r < iJ:=fun l bk hb r hr=>by
   obtain⟨v,hv,hok⟩:=hal.dH l bk hb;cases bk with
   | cells cs=>
    obtain⟨b,vs,t,_,_,_,hr'⟩:=hok;obtain⟨u,hu⟩:=aZ.iO hr' r hr;exact hlt r u hu
   | row e d=>simp[Bk.refs]at hr
   | wE d=>simp[Bk.refs]at hr
   | iter s p=>simp[Bk.refs]at hr
   | map kvs=>simp[Bk.refs]at hr
   | tc t cs=>
    obtain⟨b,vs,_,_,_,hr'⟩:=hok;obtain⟨u,hu⟩:=aZ.iO hr' r hr;exact hlt r u hu
  have fin:(arK T S fn.results.toList RS iJ keep s').run (fv a)=some (fv a)->a'.defers=[]/\∃v,(results fn a'.tmps).run P w'= .ok v w'/\∃v' g',Ending.returned v= .returned v'/\More g g'/\Hp S ⟨w,X⟩ N (rZ (fH (RS.its nos) (RS.enc (fv a)) iJ).2.1 (fun l=>if l∈keep then(AS.enc a).2[l]? else none)) g' (fun _=>True) w'/\
    (RD (fH (RS.its nos) (RS.enc (fv a)) iJ).1 fn.results.toList.length).Rel S (aW N (rZ (fH (RS.its nos) (RS.enc (fv a)) iJ).2.1 (fun l=>if l∈keep then(AS.enc a).2[l]? else none)) g') w' g' v':=by
   intro hk;obtain⟨h1,v,h2,g',h3,h4,h5⟩:=anv hS hTy hRS hlt (hAS.iJ a) hrf hpb h' hk;exact⟨h1,v,h2,v,g',rfl,h3,h4,h5⟩
  cases e with
  | normal=>exact fin hk
  | ret=>exact fin hk
  | exit i=>cases hk
def aAL {D:Type}(a b:Ct D):Ct D:=fun args dH=>Ba (a args dH) (b args dH)
theorem aya {f:FuncId}{a b:Ct D}(ha:fV P S f a)(hb:fV P S f b):fV P S f (aAL a b):=by
 refine⟨ha.enters,fun X N g w args nT dH p r post keep hp hrel hc hpre=> ?_⟩;unfold aAL at hc;cases h:a nT dH with
 | some x=>
  rw[h]at hc;injection hc with hc
  subst hc;exact ha.calls X N g w args nT dH p r post keep hp hrel h hpre
 | none=>
  rw[h]at hc;exact hb.calls X N g w args nT dH p r post keep hp hrel hc hpre
end
end Go.Vc

/- Own engine: Vdn. -/
import Derived.Test.YtiibcbmenoaigaaGreatDoorEng8
namespace Go.Vc
open Go.RowKit
set_option linter.unusedVariables false
set_option linter.unusedSimpArgs false
section
variable {D:Type}
def resArr (T:TypeId->Option Ty)(S:Sh D)(s:St D)(ty:TypeId)(x:Sl D):Option (Sv D):=
 match arrOf T ty with
 | none=>none
 | some (e,n,sz)=>(match x with
  | .one (.lf (.opt l i j z))=>if Nat.beq i 0 && (Nat.beq j 0 && Nat.beq z sz)then(match s.blk l with
   | some (.row _ d)=>if Nat.beq sz (S.size d) && Nat.beq (S.len d) n then some (.agg (rowsRun S d sz 0 n))else none
   | _=>none)else none
  | _=>none)
def resVar (T:TypeId->Option Ty)(S:Sh D)(s:St D):ResultVar->Option (Sv D)
 | .tmp t=>(match s.slot t with
  | .one u=>some u
  | _=>none)
 | .cell t ty=>(match xLoad T S s.blk ty (s.slot t)with
  | some ⟨none, .one u,_⟩=>some u
  | _=>resArr T S s ty (s.slot t))
def resVars (T:TypeId->Option Ty)(S:Sh D)(s:St D):List ResultVar->Option (List (Sv D))
 | []=>some []
 | r::rs=>(match resVar T S s r,resVars T S s rs with
  | some u,some us=>some (u::us)
  | _,_=>none)
def initT:Nat->List (Sl D)->List (Nat×Sl D)
 | _,[]=>[]
 | i,x::xs=>(i,x)::initT (i+1) xs
def initB:Nat->List (Bk D)->List (Nat×Option (Bk D))
 | _,[]=>[]
 | i,x::xs=>(i,some x)::initB (i+1) xs
def St.init (args:List (Sl D))(bks:List (Bk D)):St D:=⟨initT 0 args,initB 0 bks,bks.length+64⟩
def nos:Nat->Sl D:=fun _=> .one (.lf .any)
def rslot (us:List (Sv D))(i:Nat):Sl D:=
 match us[i]? with
 | some u=> .one u
 | none=> .one (.lf .any)
def absRes (is:List It)(lent:Nat)(keep:List Nat)(us:List (Sv D))(s:St D):Option (List (List (Lf D))):=
 match absIts (rslot us) s.blk is with
 | none=>none
 | some (cs,mv)=>if nodupN (mv.map (·.1)) && (mv.all fun p=> !memB p.1 (is.flatMap It.ids)) && ((is.flatMap It.ids).all fun l=>Nat.blt l lent) &&
   (keep.all fun i=>Nat.blt i lent && !memB i ((s.blks.take (s.blks.length - lent)).map (·.1)) && !memB i (mv.map (·.1)))then some cs else none
def retT (T:TypeId->Option Ty)(S:Sh D)(rs:List ResultVar)(RS:Shp D)(lent:Nat)(keep:List Nat)(s:St D):Tr D RS.X:=
 match resVars T S s rs with
 | none=> .halt 603 s
 | some us=>(match absRes (RS.its nos) lent keep us s with
  | none=> .halt 602 s
  | some cs=>(match RS.dec cs with
   | none=> .halt 601 s
   | some x=> .ret x))
def retL (T:TypeId->Option Ty)(S:Sh D)(rs:List ResultVar)(RS:Shp D)(lent:Nat)(keep:List Nat):Ex->St D->Tr D RS.X
 | .normal,s=>retT T S rs RS lent keep s
 | .ret,s=>retT T S rs RS lent keep s
 | .exit _,s=> .halt 604 s
def svOf (ss:List (Nat×Sl D))(i:Nat):Sv D:=
 match lookS ss i with
 | some (.one u)=>u
 | _=> .lf .any
def resFrom (ss:List (Nat×Sl D)):Nat->Nat->List (Sv D)
 | _,0=>[]
 | i,k+1=>svOf ss i::resFrom ss (i+1) k
def resOut (ss:List (Nat×Sl D))(k:Nat):Sl D:=
 match k with
 | 1=> .one (svOf ss 0)
 | k=> .tup (resFrom ss 0 k)
structure ArgShp (D:Type):Type 1 where
 A:Type
 enc:A->List (Sl D)×List (Bk D)
 dec:List (Sl D)->List (Bk D)->Option A
def Lf.firm:Lf D->Bool
 | .val _ | .xt _=>false
 | _=>true
def exactB:Bk D->Bool
 | .cells cs=>cs.all Lf.firm
 | _=>true
def exactAt (bks:List (Bk D))(l:Nat):Bool:=
 match bks[l]? with
 | some bk=>exactB bk
 | none=>true
def keepE (bks:List (Bk D))(keep:List Nat):List Nat:=keep.filter fun l=>exactAt bks l
def keepX (bks enc:List (Bk D)):List Nat->List (Nat×Bk D)
 | []=>[]
 | l::r=>(match exactAt bks l,enc[l]? with
  | false,some bk=>(l,bk)::keepX bks enc r
  | _,_=>keepX bks enc r)
def ctN (AS:ArgShp D)(RS:Shp D)(k:Nat)(keep:List Nat)(pre:AS.A->Option Prop)(f:AS.A->RS.X):Ct D:=fun args bks=>
 match AS.dec args bks with
 | none=>none
 | some a=>some ((pre a).map dq,resOut (conIts (RS.its nos) (RS.enc (f a)) bks.length).1 k,(conIts (RS.its nos) (RS.enc (f a)) bks.length).2.1++keepX bks (AS.enc a).2 keep,keepE bks keep)
def LesL (S:Sh D):List (Lf D)->List (Lf D)->Prop
 | [],[]=>True
 | x::xs,y::ys=>x.Le S y/\LesL S xs ys
 | _,_=>False
def SvLe (S:Sh D):Sv D->Sv D->Prop
 | .lf x, .lf y=>x.Le S y
 | .agg xs, .agg ys=>LesL S xs ys
 | _,_=>False
def SlsLe (S:Sh D):List (Sl D)->List (Sl D)->Prop
 | [],[]=>True
 | .one x::xs, .one y::ys=>SvLe S x y/\SlsLe S xs ys
 | _,_=>False
def BkLe (S:Sh D):Bk D->Bk D->Prop
 | .cells xs, .cells ys=>LesL S xs ys
 | .row e d, .row e' d'=>e=e'/\d=d'
 | .ice d, .ice d'=>d=d'
 | .iter s p, .iter s' p'=>s=s'/\p=p'
 | .map a, .map b=>a=b
 | .tc t xs, .tc t' ys=>t=t'/\xs=ys
 | _,_=>False
def BksLe (S:Sh D):List (Bk D)->List (Bk D)->Prop
 | [],[]=>True
 | x::xs,y::ys=>BkLe S x y/\BksLe S xs ys
 | _,_=>False
structure ArgOk (S:Sh D)(AS:ArgShp D)(lent n:Nat):Prop where
 ok:∀args bks a,AS.dec args bks=some a->SlsLe S args (AS.enc a).1/\BksLe S bks (AS.enc a).2
 lent:∀a,(AS.enc a).2.length=lent
 args:∀a,(AS.enc a).1.length<=n
end
section
variable {D:Type}{P:Program}{S:Sh D}{T:TypeId->Option Ty}{Γ:FuncId->Option (Ct D)}{N:Nat->Prop}{w w':World}{w0:Bs}{g0:Nat->Option Value}{n:Nat}
theorem SlsRel.length {M:Nat->Prop}{g:Nat->Option Value}:∀{xs:List (Sl D)} {vs:List Value},SlsRel S M w g xs vs->xs.length=vs.length
 | [],[],_=>rfl
 | _::_,_::_,h=>by simp[SlsRel.length h.2]
theorem init_rel {M:Nat->Prop}{g:Nat->Option Value}:∀(xs:List (Sl D)) (vs:List Value) (i:Nat) (f:Nat->Value),SlsRel S M w g xs vs->(∀j v,vs[j]? =some v->f (i+j)=v)->∀t,(look (.one (.lf .any)) (initT i xs) t).Rel S M w g (f t)
 | [],_,_,_,_,_,_=>trivial
 | x::xs,v::vs,i,f,h,hf,t=>by
  simp only[initT,look]
  split
  ·rename_i ht
   have ht:=Nat.eq_of_beq_eq_true ht
   subst ht
   have:=hf 0 v rfl
   simp only[Nat.add_zero]at this
   rw[this]
   exact h.1
  ·exact init_rel xs vs (i+1) f h.2 (fun j u hj=>by have:=hf (j+1) u (by simpa using hj);rwa [show i+(j+1)=i+1+j by omega]at this) t
theorem initB_look:∀(bks:List (Bk D)) (i l:Nat),look none (initB i bks) l=if i<=l then bks[l - i]? else none
 | [],i,l=>by simp[initB,look]
 | b::bks,i,l=>by
  simp only[initB,look]
  by_cases h:l=i
  ·subst h
   simp
  ·have:¬(l.beq i=true):=fun e=>h (Nat.eq_of_beq_eq_true e)
   rw[if_neg this,initB_look bks (i+1) l]
   by_cases hl:i<=l
   ·rw[if_pos hl,if_pos (by omega),show l - i=(l - (i+1))+1 by omega]
    rfl
   ·rw[if_neg hl,if_neg (by omega)]
theorem initB_tab (bks:List (Bk D)):look none (initB 0 bks)=tabOf bks:=by
 funext l
 rw[initB_look]
 simp[tabOf]
theorem init_holds {args:List Value}{sargs:List (Sl D)}{bks:List (Bk D)}(hp:Hp S w0 N (tabOf bks) g0 (· < bks.length) w)(hr:SlsRel S (Mset N (tabOf bks) g0) w g0 sargs args)(hle:sargs.length<=n):
  HoldsSt S w0 g0 N n (St.init sargs bks) {tmps:=args.toArray++Array.replicate (n - args.toArray.size) undef,defers:=[]} w:=by
 have hl:=hr.length
 have hb:(St.init sargs bks).blk=tabOf bks:=initB_tab bks
 refine⟨g0,by rw[hb];exact hp.weaken fun l hl=>by simp only[St.init];omega,fun t=> ?_,by simp;omega,rfl,More.refl _⟩
 rw[hb]
 refine init_rel sargs args 0 (fun t=>(args.toArray++Array.replicate (n - args.toArray.size) undef).getD t undef) hr (fun j v hj=> ?_) t
 have hlt:j < args.length:=(List.getElem?_eq_some_iff.1 hj).1
 have hv:args[j]=v:=by simpa[List.getElem?_eq_getElem hlt]using hj
 simp only[Nat.zero_add,Array.getD]
 have:j < (args.toArray++Array.replicate (n - args.toArray.size) undef).size:=by simp;omega
 rw[dif_pos this]
 show(args.toArray++Array.replicate (n - args.toArray.size) undef)[j]=v
 rw[Array.getElem_append_left (by simpa using hlt)]
 simpa using hv
def resRun (tmps:Array Value):ResultVar->Sem Value
 | .tmp t=>pure (tmps.getD t undef)
 | .cell a t=>do loadVar t (<-asAddr (tmps.getD a undef))
theorem resArr_run {s:St D}{g:Nat->Option Value}{ty:TypeId}{x:Sl D}{xv:Value}{u:Sv D}(hTy:∀t ty,T t=some ty->TyOk P t ty)(hp:Hp S w0 N s.blk g (· < s.next) w)(hx:x.Rel S (Mset N s.blk g) w g xv)
  (h:resArr T S s ty x=some u):∃ad v,xv= .pointer (some ad)/\(loadVar ty ad).run P w= .ok v w/\u.Rel S (Mset N s.blk g) w g v:=by
 unfold resArr at h
 split at h
 ·cases h
 ·rename_i e n sz harr
  obtain⟨ty',te,hty,hte,hsz,h0,htsz,hag,hund,hok,hoke⟩:=arrOf_spec hTy harr
  have hagg:=ty_isAgg hok w
  have htys:=ty_size hok w
  split at h
  ·rename_i l i j z
   obtain⟨b,n',cap,hg,hv⟩:=hx
   split at h
   ·rename_i hc
    obtain⟨rfl,rfl,rfl⟩:=beq3 hc
    split at h
    ·rename_i e' d hb
     split at h
     ·rename_i hs
      simp only[Bool.and_eq_true]at hs
      have hl0:=Nat.eq_of_beq_eq_true hs.2
      have hs:=Nat.eq_of_beq_eq_true hs.1
      injection h with h
      subst h
      obtain⟨vs,hl,hr,hc⟩:=rowsRun_rel (S:=S) (M:=Mset N s.blk g) (w:=w) (g:=g) (d:=d) (ad:=⟨b,0,none⟩) (sz:=z) n 0 (fun r hr=>by
       obtain⟨vs,h1,h2,h3⟩:=rowRun_rel hp hb hg (i:=0+r) (by omega) z 0 (by omega)
       refine⟨vs,h1,h2,fun k u hk=> ?_⟩
       have:=h3 k u hk
       rw[add_none]
       rw[<-hs]at this
       simpa using this)
      have hrun:=run_loadCells (P:=P) (w:=w) ⟨b,0,none⟩ vs 0 #[] (fun k u hk=>by have:=hc k u hk;simpa using this)
      rw[hl,<-htsz]at hrun
      refine⟨⟨b,0,none⟩, .agg vs.toArray,by rw[hv];simp,?_,⟨_,rfl,hr⟩⟩
      simp[loadVar,hagg,hag,htys,loadCells,hrun]
     ·cases h
    ·cases h
   ·cases h
  ·cases h
theorem resVars_run {s:St D}{a:Act}{g:Nat->Option Value}(hTy:∀t ty,T t=some ty->TyOk P t ty)(hp:Hp S w0 N s.blk g (· < s.next) w)(hs:∀t,(s.slot t).Rel S (Mset N s.blk g) w g (a.tmps.getD t undef)):
  ∀(rs:List ResultVar) (us:List (Sv D)),resVars T S s rs=some us->∃vs,(rs.mapM (resRun a.tmps)).run P w= .ok vs w/\SvsRel S (Mset N s.blk g) w g us vs
 | [],us,h=>by
  injection h with h
  subst h
  exact⟨[],rfl,trivial⟩
 | r::rs,us,h=>by
  unfold resVars at h
  split at h
  ·rename_i u us' hu hus
   injection h with h
   subst h
   obtain⟨vs,hrun,hrel⟩:=resVars_run hTy hp hs rs us' hus
   have:∃v,(resRun a.tmps r).run P w= .ok v w/\u.Rel S (Mset N s.blk g) w g v:=by
    cases r with
    | tmp t=>
     simp only[resVar]at hu
     split at hu
     ·rename_i x hx
      injection hu with hu
      subst hu
      have:=hs t
      rw[hx]at this
      exact⟨_,rfl,this⟩
     ·cases hu
    | cell t ty=>
     simp only[resVar]at hu
     split at hu
     ·rename_i x b hx
      injection hu with hu
      subst hu
      cases hTT:T ty with
      | none=>simp[xLoad,hTT]at hx
      | some tyv=>
       obtain⟨ad,v,hv,hr,hrl⟩:=xLoad_run (hTy _ _ hTT) hTT hp (hs t) hx trivial
       exact⟨v,by simp only[resRun,hv,asAddr,Sem.run_bind,Sem.run_pure,Result.andThen_ok];exact hr,hrl⟩
     ·obtain⟨ad,v,hv,hr,hrl⟩:=resArr_run hTy hp (hs t) hu
      exact⟨v,by simp only[resRun,hv,asAddr,Sem.run_bind,Sem.run_pure,Result.andThen_ok];exact hr,hrl⟩
   obtain⟨v,hv,hrv⟩:=this
   refine⟨v::vs,?_,hrv,hrel⟩
   simp only[List.mapM_cons,Sem.run_bind,hv,Result.andThen_ok,hrun,Sem.run_pure]
  ·cases h
theorem resFrom_rel {M:Nat->Prop}{g:Nat->Option Value}{ss:List (Nat×Sl D)}{vs:List Value}(h:∀i v,vs[i]? =some v->(svOf ss i).Rel S M w g v):∀(k i:Nat),i+k=vs.length->SvsRel S M w g (resFrom ss i k) (vs.drop i)
 | 0,i,e=>by
  rw[List.drop_of_length_le (by omega)]
  trivial
 | k+1,i,e=>by
  have hi:i < vs.length:=by omega
  rw[List.drop_eq_getElem_cons hi]
  exact⟨h i _ (by simp[hi]),resFrom_rel h k (i+1) (by omega)⟩
theorem svsRel_of {M:Nat->Prop}{g:Nat->Option Value}:∀{us:List (Sv D)} {vs:List Value},SvsRel S M w g us vs->∀i,(rslot us i).Rel S M w g (vs.getD i undef)
 | [],[],_,i=>trivial
 | u::us,v::vs,h,0=>h.1
 | u::us,v::vs,h,i+1=>svsRel_of h.2 i
theorem ret_sound (hS:ShOk S){s:St D}{a:Act}{fn:Func}{RS:Shp D}{lent:Nat}{keep:List Nat}{bks:List (Bk D)}{x:RS.X}(hTy:∀t ty,T t=some ty->TyOk P t ty)(hRS:ShpOk S RS)(hlt:∀l v,g0 l=some v->l < lent)(hlen0:bks.length=lent)(hrf:∀(l:Nat) (bk:Bk D),bks[l]? =some bk->∀r∈bk.refs,r < lent)(hpre:∃pre,s.blks=pre++initB 0 bks)(h:HoldsSt S w0 g0 N n s a w){e0:RS.X}(hr:(retT T S fn.results.toList RS lent keep s).run e0=some x):
  a.defers=[]/\∃v,(results fn a.tmps).run P w= .ok v w/\∃g',More g0 g'/\Hp S w0 N (tabIt (conIts (RS.its nos) (RS.enc x) lent).2.1 (fun l=>if l∈keep then bks[l]? else none)) g' (fun _=>True) w/\
   (resOut (conIts (RS.its nos) (RS.enc x) lent).1 fn.results.toList.length).Rel S (Mset N (tabIt (conIts (RS.its nos) (RS.enc x) lent).2.1 (fun l=>if l∈keep then bks[l]? else none)) g') w g' v:=by
 obtain⟨g,hp,hs,hn,hdf,hm⟩:=h
 unfold retT at hr
 split at hr
 ·cases hr
 rename_i us hus
 split at hr
 ·cases hr
 rename_i cs hcs
 split at hr
 ·cases hr
 rename_i x' hx'
 injection hr with hr
 subst hr
 obtain⟨vs,hrun,hrel⟩:=resVars_run hTy hp hs _ us hus
 have hlenr:us.length=fn.results.toList.length:=by
  clear hrun hcs hx' hrel
  generalize fn.results.toList=rs at hus
  induction rs generalizing us with
  | nil=>injection hus with hus;subst hus;rfl
  | cons r rs ih=>
   unfold resVars at hus
   split at hus
   ·rename_i u us' _ h2
    injection hus with hus
    subst hus
    simp[ih us' h2]
   ·cases hus
 have hlen:vs.length=fn.results.toList.length:=by rw[<-hrel.length];exact hlenr
 refine⟨hdf,if h:vs.toArray.size=1 then vs.toArray[0]else .tuple vs.toArray,?_,?_⟩
 ·unfold results
  rw[Sem.run_bind,Array.mapM_eq_mapM_toList,Sem.run_map]
  change (((Sem.run P (fn.results.toList.mapM (resRun a.tmps)) w).andThen fun a w'=>Result.ok a.toArray w').andThen _)=_
  rw[hrun]
  rfl
 unfold absRes at hcs
 split at hcs
 ·cases hcs
 rename_i cs0 mv hab
 split at hcs
 ·rename_i hc
  injection hcs with hcs
  subst hcs
  simp only[Bool.and_eq_true]at hc
  obtain⟨⟨⟨c1,c2⟩,c3⟩,c4⟩:=hc
  have c4:∀i∈keep,i < lent/\i∉(s.blks.take (s.blks.length - lent)).map (·.1)/\i∉mv.map (·.1):=fun i hi=>by
   have:=List.all_eq_true.1 c4 i hi
   simp only[Bool.and_eq_true,Bool.not_eq_true']at this
   exact⟨by simpa[Nat.blt_eq]using this.1.1,memB_no this.1.2,memB_no this.2⟩
  obtain⟨pre,hpre⟩:=hpre
  have hil:∀(bks:List (Bk D)) (i:Nat),(initB i bks).length=bks.length:=fun bks=>by
   induction bks with
   | nil=>intro i;rfl
   | cons b r ih=>intro i;simp[initB,ih]
  have hkeys:(s.blks.take (s.blks.length - lent)).map (·.1)=pre.map (·.1):=by
   rw[hpre]
   simp[hil,hlen0]
  obtain⟨g',hp',hs',hg'⟩:=its_hold (slot:=rslot us) (val:=fun t=>vs.getD t undef) (nx:=lent) (bslot:=fun _=> .one (.lf .any)) (bblk:=fun l=>if l∈keep then bks[l]? else none) hS hp (svsRel_of hrel) hab (hRS.ok _ _ hx') (Prod.eta _).symm (nodupN_ok c1)
   (fun l hl=>⟨by have:=List.all_eq_true.1 c3 l hl;simpa[Nat.blt_eq]using this,fun hm'=>by
    obtain⟨p,hp',rfl⟩:=List.mem_map.1 hm'
    have:=List.all_eq_true.1 c2 p hp'
    simp only[Bool.not_eq_true']at this
    exact memB_no this hl⟩) (fun _=> .inl rfl) (fun l bk hb=>by
    split at hb
    ·rename_i hk
     obtain⟨k1,k2,k3⟩:=c4 l hk
     refine⟨k1,?_,hrf l bk hb,k3⟩
     rw[hkeys]at k2
     show look none s.blks l=some bk
     rw[hpre,look_append,if_neg k2,initB_tab]
     exact hb
    ·cases hb)
  refine⟨g',fun l v hl=>(hg' l (hlt l v hl)).trans (hm l v hl),hp'.weaken fun _ _=>trivial,?_⟩
  have one:∀i v,vs[i]? =some v->(svOf (conIts (RS.its nos) (RS.enc x') lent).1 i).Rel S (Mset N (tabIt (conIts (RS.its nos) (RS.enc x') lent).2.1 (fun l=>if l∈keep then bks[l]? else none)) g') w g' v:=by
   intro i v hv
   have:=hs' i
   simp only[List.getD,hv,Option.getD_some]at this
   unfold slotIt at this
   unfold svOf
   split at this
   ·rename_i y hy
    rw[hy]
    cases y with
    | one u=>exact this
    | tup us=>trivial
   ·rename_i hy
    rw[hy]
    trivial
  rw[<-hlen]
  by_cases h1:vs.length=1
  ·rw[dif_pos (by simpa using h1)]
   cases vs with
   | nil=>simp at h1
   | cons v vs=>
    cases vs with
    | cons _ _=>simp at h1
    | nil=>exact one 0 v rfl
  ·rw[dif_neg (by simpa using h1)]
   have hk:resOut (conIts (RS.its nos) (RS.enc x') lent).1 vs.length= .tup (resFrom (conIts (RS.its nos) (RS.enc x') lent).1 0 vs.length):=by
    unfold resOut
    split
    ·rename_i e;exact absurd e h1
    ·rfl
   rw[hk]
   exact⟨vs,rfl,by simpa using resFrom_rel one vs.length 0 (by omega)⟩
 ·cases hcs
theorem LesL.rel {M:Nat->Prop}{g:Nat->Option Value}:∀{xs ys:List (Lf D)} {vs:List Value},LesL S xs ys->LfsRel S M w g xs vs->LfsRel S M w g ys vs
 | [],[],[],_,_=>trivial
 | _::_,_::_,_::_,h,hr=>⟨Lf.Le.rel h.1 hr.1,LesL.rel h.2 hr.2⟩
theorem SvLe.rel {M:Nat->Prop}{g:Nat->Option Value}{x y:Sv D}{v:Value}(h:SvLe S x y)(hr:x.Rel S M w g v):y.Rel S M w g v:=by
 cases x with
 | lf x=>
  cases y with
  | lf y=>exact Lf.Le.rel h hr
  | agg ys=>exact h.elim
 | agg xs=>
  cases y with
  | lf y=>exact h.elim
  | agg ys=>obtain⟨vs,e,hr⟩:=hr;exact⟨vs,e,LesL.rel h hr⟩
theorem SlsLe.rel {M:Nat->Prop}{g:Nat->Option Value}:∀{xs ys:List (Sl D)} {vs:List Value},SlsLe S xs ys->SlsRel S M w g xs vs->SlsRel S M w g ys vs
 | [],[],[],_,_=>trivial
 | .one x::xs, .one y::ys,v::vs,h,hr=>⟨SvLe.rel h.1 hr.1,SlsLe.rel h.2 hr.2⟩
theorem BkLe.hot {x y:Bk D}(h:BkLe S x y):hot (some x)=hot (some y):=by cases x<;>cases y<;>first | rfl | exact h.elim
theorem BkLe.ok {M:Nat->Prop}{g:Nat->Option Value}{B:Bs}{x y:Bk D}{v:Value}(h:BkLe S x y)(hr:BkOk S M w g B x v):BkOk S M w g B y v:=by
 cases x with
 | cells xs=>
  cases y with
  | cells ys=>obtain⟨b,vs,t,h1,h2,h3,h4⟩:=hr;exact⟨b,vs,t,h1,h2,h3,LesL.rel h h4⟩
  | _=>exact h.elim
 | row e d=>
  cases y with
  | row e' d'=>obtain⟨rfl,rfl⟩:=h;exact hr
  | _=>exact h.elim
 | ice d=>
  cases y with
  | ice d'=>have h:d=d':=h;subst h;exact hr
  | _=>exact h.elim
 | iter s p=>
  cases y with
  | iter s' p'=>obtain⟨rfl,rfl⟩:=h;exact hr
  | _=>exact h.elim
 | map a=>
  cases y with
  | map b=>have h:a=b:=h;subst h;exact hr
  | _=>exact h.elim
 | tc t xs=>
  cases y with
  | tc t' ys=>obtain⟨rfl,rfl⟩:=h;exact hr
  | _=>exact h.elim
theorem BksLe.at:∀{xs ys:List (Bk D)},BksLe S xs ys->xs.length=ys.length/\∀(i:Nat) (y:Bk D),ys[i]? =some y->∃x,xs[i]? =some x/\BkLe S x y
 | [],[],_=>⟨rfl,fun i y h=>by simp at h⟩
 | x::xs,y::ys,h=>by
  obtain⟨h1,h2⟩:=BksLe.at h.2
  refine⟨by simp[h1],fun i y' hi=> ?_⟩
  cases i with
  | zero=>simp at hi;subst hi;exact⟨x,rfl,h.1⟩
  | succ i=>simpa using h2 i y' (by simpa using hi)
theorem BksLe.hp {g:Nat->Option Value}{al:Nat->Prop}{xs ys:List (Bk D)}(h:BksLe S xs ys)(hp:Hp S w0 N (tabOf xs) g al w):Hp S w0 N (tabOf ys) g al w/\Mset N (tabOf ys) g=Mset N (tabOf xs) g:=by
 obtain⟨hl,hat⟩:=h.at
 have hhot:∀l,hot (tabOf ys l)=hot (tabOf xs l):=fun l=>by
  unfold tabOf
  cases hy:ys[l]? with
  | none=>
   have:xs[l]? =none:=by
    rw[List.getElem?_eq_none_iff]at hy⊢
    omega
   rw[this]
  | some y=>
   obtain⟨x,hx,hle⟩:=hat l y hy
   rw[hx]
   exact hle.hot.symm
 have hM:Mset N (tabOf ys) g=Mset N (tabOf xs) g:=by
  funext b
  simp only[Mset,hhot]
 refine⟨⟨hp.below,hp.hN,fun l bk hb=> ?_,fun l l' v v' b h1 h2=>hp.sep l l' v v' b (by rw[<-hhot];exact h1) (by rw[<-hhot];exact h2),hp.al,hp.refs,by rw[hM];exact hp.gl⟩,hM⟩
 obtain⟨x,hx,hle⟩:=hat l bk hb
 obtain⟨v,hv,hok⟩:=hp.bks l x hx
 exact⟨v,hv,by rw[hM];exact hle.ok hok⟩
theorem LesL.eq:∀{xs ys:List (Lf D)},LesL S xs ys->xs.all Lf.firm=true->ys=xs
 | [],[],_,_=>rfl
 | x::xs,y::ys,h,hd=>by
  simp only[List.all_cons,Bool.and_eq_true]at hd
  have e:y=x:=by
   rcases h.1 with h | ⟨h,_⟩ | ⟨b,h,_⟩ | ⟨_,_,_,_,h,_⟩
   ·exact h.symm
   ·rw[h]at hd;simp[Lf.firm]at hd
   ·rw[h]at hd;simp[Lf.firm]at hd
   ·rw[h]at hd;simp[Lf.firm]at hd
  rw[e,LesL.eq h.2 hd.2]
theorem BkLe.eq {x y:Bk D}(h:BkLe S x y)(he:exactB x=true):y=x:=by
 cases x with
 | cells xs=>
  cases y with
  | cells ys=>rw[LesL.eq h he]
  | _=>exact h.elim
 | row e d=>
  cases y with
  | row e' d'=>obtain⟨rfl,rfl⟩:=h;rfl
  | _=>exact h.elim
 | ice d=>
  cases y with
  | ice d'=>have h:d=d':=h;rw[h]
  | _=>exact h.elim
 | iter s p=>
  cases y with
  | iter s' p'=>obtain⟨rfl,rfl⟩:=h;rfl
  | _=>exact h.elim
 | map a=>
  cases y with
  | map b=>have h:a=b:=h;rw[h]
  | _=>exact h.elim
 | tc t xs=>
  cases y with
  | tc t' ys=>obtain⟨rfl,rfl⟩:=h;rfl
  | _=>exact h.elim
theorem lookB_append (a b:List (Nat×Bk D))(l:Nat):lookB (a++b) l=match lookB a l with
  | some bk=>some bk
  | none=>lookB b l:=by
 induction a with
 | nil=>rfl
 | cons p r ih=>
  obtain⟨k,v⟩:=p
  simp only[List.cons_append,lookB]
  split
  ·rfl
  ·exact ih
theorem keepX_look {bks enc:List (Bk D)}{l:Nat}:∀{keep:List Nat},lookB (keepX bks enc keep) l=if l∈keep/\exactAt bks l=false then enc[l]? else none
 | []=>by simp[keepX,lookB]
 | k::r=>by
  unfold keepX
  have ih:=keepX_look (bks:=bks) (enc:=enc) (l:=l) (keep:=r)
  by_cases hk:k=l
  ·subst hk
   cases he:exactAt bks k with
   | true=>simp only[he]at ih⊢;simpa using ih
   | false=>
    cases hx:enc[k]? with
    | none=>simp only[hx,he]at ih⊢;rw[ih];simp
    | some bk=>simp[lookB,hx]
  ·have hk':¬l=k:=fun e=>hk e.symm
   have hb:Nat.beq k l=false:=by
    cases e:Nat.beq k l with
    | false=>rfl
    | true=>exact absurd (Nat.eq_of_beq_eq_true e) hk
   have e2:(l∈k::r/\exactAt bks l=false) ↔ (l∈r/\exactAt bks l=false):=by simp[hk']
   split
   ·simp only[lookB,hb,ih,e2];rfl
   ·simp only[ih,e2]
theorem keep_tab {bks enc:List (Bk D)}{post:List (Nat×Bk D)}{keep:List Nat}(h:BksLe S bks enc):tabK (post++keepX bks enc keep) (keepE bks keep) bks=tabIt post (fun l=>if l∈keep then enc[l]? else none):=by
 funext l
 obtain⟨hl,hat⟩:=h.at
 unfold tabK tabIt
 rw[lookB_append]
 cases hp:lookB post l with
 | some bk=>rfl
 | none=>
  dsimp only
  rw[keepX_look]
  have hmem:memB l (keepE bks keep)=decide (l∈keep/\exactAt bks l=true):=by
   rw[Bool.eq_iff_iff,memB_iff]
   simp[keepE]
  rw[hmem]
  by_cases hk:l∈keep
  ·cases hx:exactAt bks l with
   | false=>
    simp only[hk,true_and,if_true]
    cases he:enc[l]? with
    | some bk=>rfl
    | none=>simp
   | true=>
    simp only[hk,true_and,if_true,Bool.true_eq_false,if_false,decide_true]
    cases he:enc[l]? with
    | none=>
     rw[List.getElem?_eq_none_iff]at he⊢
     omega
    | some y=>
     obtain⟨x,hx1,hle⟩:=hat l y he
     rw[hx1]
     unfold exactAt at hx
     rw[hx1]at hx
     rw[hle.eq hx]
  ·simp[hk]
theorem fn_okN {f:FuncId}{fn:Func}{c:Code}{n:Nat}{rs:List ResultVar}{J:Nat->Option (Shp D)}(hmx:P.follows .mixedOrders=true)(hTy:∀t ty,T t=some ty->TyOk P t ty)(hΓ:∀f ct,Γ f=some ct->CtOk P S f ct)(hS:ShOk S)(hJ:∀i sh,J i=some sh->ShpOk S sh)
  (hf:P.funcs[f]? =some fn) (hb:fn.body=some c) (hnm:(fn.name== "runtime.NumGoroutine")=false) (hn:fn.ntmps=n) (hrs:fn.results.toList=rs) (hdr:drawsOk c=true)
  {AS:ArgShp D} {RS:Shp D} {lent:Nat} {keep:List Nat} (hAS:ArgOk S AS lent n) (hRS:ShpOk S RS) (pre:AS.A->Option Prop) (fv:AS.A->RS.X)
  (hrun:∀a,preP (pre a)->(evC T S Γ n J c RS.X (St.init (AS.enc a).1 (AS.enc a).2) (retL T S rs RS lent keep)).run (fv a)=some (fv a)):CtOk P S f (ctN AS RS rs.length keep pre fv):=by
 subst hn hrs
 refine⟨fun args w=> ?_,fun X N g w args sargs bks p r post kp hp hrel hc hpre=> ?_⟩
 ·have hnm':¬fn.name= "runtime.NumGoroutine" :=by simpa using hnm
  simp[callFunc,hf,hnm',hb]
 ·unfold ctN at hc
  split at hc
  ·cases hc
  rename_i a ha
  injection hc with hc
  injection hc with q1 hc
  injection hc with q2 hc
  injection hc with q3 q4
  subst q1 q2 q3 q4
  obtain⟨l1,l2⟩:=hAS.ok sargs bks a ha
  have hlen:bks.length=lent:=by rw[l2.at.1];exact hAS.lent a
  obtain⟨hp2,hM⟩:=l2.hp hp
  have hrel2:=l1.rel hrel
  rw[<-hM]at hrel2
  have hlt:∀l v,g l=some v->l < lent:=fun l v hl=>by rw[<-hlen];exact hp.al l v hl
  have hal:Hp S ⟨w,X⟩ N (tabOf (AS.enc a).2) g (· < (AS.enc a).2.length) w:=hp2.weaken fun l hl=>by rw[<-l2.at.1];exact hl
  rw[hlen,keep_tab l2]
  refine calls_of_wp hf hb (ev_sound hJ hmx hTy hΓ hS (w0:=⟨w,X⟩) (N:=N) c _ _ _ _ _ _ _ w hdr (hrun a (preD_map.1 hpre)) (init_holds hal hrel2 (hAS.args a)) fun e s' a' w' h' hpb _ hk=> ?_)
  have hrf:∀(l:Nat) (bk:Bk D),(AS.enc a).2[l]? =some bk->∀r∈bk.refs,r < lent:=fun l bk hb r hr=>by
   obtain⟨v,hv,hok⟩:=hal.bks l bk hb
   cases bk with
   | cells cs=>
    obtain⟨b,vs,t,_,_,_,hr'⟩:=hok
    obtain⟨u,hu⟩:=LfsRel.refs_some hr' r hr
    exact hlt r u hu
   | row e d=>simp[Bk.refs]at hr
   | ice d=>simp[Bk.refs]at hr
   | iter s p=>simp[Bk.refs]at hr
   | map kvs=>simp[Bk.refs]at hr
   | tc t cs=>
    obtain⟨b,vs,_,_,_,hr'⟩:=hok
    obtain⟨u,hu⟩:=LfsRel.refs_some hr' r hr
    exact hlt r u hu
  have fin:(retT T S fn.results.toList RS lent keep s').run (fv a)=some (fv a)->a'.defers=[]/\∃v,(results fn a'.tmps).run P w'= .ok v w'/\∃v' g',Ending.returned v= .returned v'/\More g g'/\Hp S ⟨w,X⟩ N (tabIt (conIts (RS.its nos) (RS.enc (fv a)) lent).2.1 (fun l=>if l∈keep then(AS.enc a).2[l]? else none)) g' (fun _=>True) w'/\
    (resOut (conIts (RS.its nos) (RS.enc (fv a)) lent).1 fn.results.toList.length).Rel S (Mset N (tabIt (conIts (RS.its nos) (RS.enc (fv a)) lent).2.1 (fun l=>if l∈keep then(AS.enc a).2[l]? else none)) g') w' g' v':=by
   intro hk
   obtain⟨h1,v,h2,g',h3,h4,h5⟩:=ret_sound hS hTy hRS hlt (hAS.lent a) hrf hpb h' hk
   exact⟨h1,v,h2,v,g',rfl,h3,h4,h5⟩
  cases e with
  | normal=>exact fin hk
  | ret=>exact fin hk
  | exit i=>cases hk
def ctOr {D:Type}(a b:Ct D):Ct D:=fun args bks=>firstOf (a args bks) (b args bks)
theorem ctOr_ok {f:FuncId}{a b:Ct D}(ha:CtOk P S f a)(hb:CtOk P S f b):CtOk P S f (ctOr a b):=by
 refine⟨ha.enters,fun X N g w args sargs bks p r post keep hp hrel hc hpre=> ?_⟩
 unfold ctOr at hc
 cases h:a sargs bks with
 | some x=>
  rw[h]at hc
  injection hc with hc
  subst hc
  exact ha.calls X N g w args sargs bks p r post keep hp hrel h hpre
 | none=>
  rw[h]at hc
  exact hb.calls X N g w args sargs bks p r post keep hp hrel hc hpre
end
end Go.Vc

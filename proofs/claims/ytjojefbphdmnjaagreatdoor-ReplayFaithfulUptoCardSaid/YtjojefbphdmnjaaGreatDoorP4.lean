/- Codecs: how much is read. -/
import Derived.Test.YtjojefbphdmnjaaGreatDoorP3
namespace Go.Proofs.YtjojefbphdmnjaaGreatDoor
noncomputable section
open Go.RowKit Go.Vc
open Tryz
set_option linter.unusedVariables false
set_option linter.unusedSimpArgs false
set_option maxRecDepth 100000
theorem avX (s:Str):isU64 (Ba s).1:=by
 unfold Ba adm;simp only[a_,val_ret,tJ];cases decide ((s.length:Int) < 8)with
 | true=>exact u0
 | false=>exact CE (Q:=fun(r:Int×Int)=>isU64 r.1) (fun _ y=>isU64 y) 8 _ 0 0 rfl u0 (fun i y _ _=>by simp only[iY,val_lt,val_ob,val_ret];exact aeP _) (fun i y _ h=>h)
theorem ac_ {c:aC}:isU64 (vK c).1:=by
 have k:=avX (o6 c 8);unfold vK Rq;simp only[val_ob,val_lt,a_,val_ret];cases(Ba (o6 c 8)).2 !=0 with
 | true=>exact u0
 | false=>exact k
theorem Qq {f:Raw}(k:1<=f.Num/\f.Num<=65535)(j:0<=f.dF/\f.dF<=6)(g:isU64 f.Bits)(i:f.dF<=2->f.Data=[])(d:3<=f.dF->f.Bits=0):IM f:=by
 refine⟨g,?_⟩;have e:(zB f.Num f.dF).2=0:=by
  unfold zB aa4;simp only[a_,val_lt,val_ob,val_ret];rw[nU (show ¬f.Num < 1 by omega),nU (show ¬65535 < f.Num by omega),nU (show ¬f.dF < 0 by omega),nU (show ¬6 < f.dF by omega)];rfl
 have h:ai0 f.dF=decide (f.dF<=2):=by
  unfold ai0 aD5;simp only[a_,val_ret];by_cases w0:f.dF=0
  ·rw[w0];rfl
  by_cases c:f.dF=1
  ·rw[c];rfl
  rw[beq_false_of_ne w0,beq_false_of_ne c];by_cases b:f.dF=2
  ·rw[b];rfl
  ·rw[nU ah];exact beq_false_of_ne b
 unfold H9 XO;simp only[a_,val_ret];rw[e,h];by_cases a:f.dF<=2
 ·rw[pY a,i a];rfl
 ·rw[nU a,d ah];rfl
theorem ab_ {c:aC}(h:lm c){f:Raw}(n:0<=f.dF/\f.dF<=6)(g:f.Bits=0)(i:f.Data=[]):(f_ c f).2.2.Num=f.Num/\(f_ c f).2.2.dF=f.dF/\isU64 (f_ c f).2.2.Bits/\(f.dF<=2->(f_ c f).2.2.Data=[])/\(3<=f.dF->(f_ c f).2.2.Bits=0):=by
 have l:∀K:Bool->aC×Int×Raw,(thenS (bif f.dF==0 then(Sum.inl (f.dF==0):Bool⊕(aC×Int×Raw))else Sum.inl (f.dF==1)) K)=K (bif f.dF==0 then true else f.dF==1):=fun K=>by cases e:f.dF==0<;>rfl
 unfold f_ yB;simp only[val_ob,val_lt,a_,val_ret,jv];rw[l];cases a:(bif f.dF==0 then true else f.dF==1)with
 | true=>
  have b:f.dF<=2:=by
   by_cases w0:f.dF=0
   ·omega
   ·rw[beq_false_of_ne w0]at a;have:=eq_of_beq (show(f.dF==1)=true from a);omega
  exact⟨rfl,rfl,(jU h).1,fun _=>i,fun j=>absurd b ah⟩
 | false=>
  cases d:f.dF==2 with
  | true=>
   have b:=eq_of_beq d;exact⟨rfl,rfl,ac_,fun _=>i,fun j=>absurd b ah⟩
  | false=>
   have k:¬f.dF<=2:=fun b=>by
    by_cases w0:f.dF=0
    ·rw[w0]at a;cases a
    by_cases m:f.dF=1
    ·rw[m]at a;cases a
    have:f.dF=2:=by omega
    rw[this]at d;cases d
   exact⟨rfl,rfl,by show isU64 f.Bits;rw[g];exact u0,fun b=>absurd b k,fun _=>g⟩
theorem auH {c:aC}(a:(qQ c).2.2.2=0)(h:lm c):(1<=(qQ c).1/\(qQ c).1<=65535)/\0<=(qQ c).2.1/\(qQ c).2.1<=6:=by
 obtain⟨⟨d,u2⟩,k⟩:=jU h;unfold qQ axG at a⊢;simp only[val_ob,val_lt,a_,val_ret]at a⊢;cases e:(bi c).2.2 !=0 with
 | true=>
  rw[e]at a;have a:(bi c).2.2=0:=a;rw[a]at e;cases e
 | false=>
  rw[e]at a;simp only[og]at a⊢;have j:(bi c).1.tmod 8=(bi c).1 % 8:=Int.tmod_eq_emod_of_nonneg d;have d8:(bi c).1.tdiv 8=(bi c).1 / 8:=Int.tdiv_eq_ediv_of_nonneg d;rw[j,d8]at a⊢;have n:wrp .u64 ((bi c).1 / 8)=(bi c).1 / 8:=wrp_in (k:= .u64) oC;rw[n]at a⊢;by_cases b:(bi c).1 % 8=7
  ·rw[b]at a;cases a
  have f:((bi c).1 % 8==7)=false:=beq_false_of_ne b;rw[f]at a⊢;simp only[og]at a⊢;by_cases i:(bi c).1 / 8 < 1
  ·rw[pY i]at a;cases a
  rw[nU i]at a⊢;by_cases g:65535 < (bi c).1 / 8
  ·rw[pY g]at a;cases a
  rw[nU g];have l:wrp .i64 ((bi c).1 / 8)=(bi c).1 / 8:=wrp_in (k:= .i64) oC;have m:wrp .i64 ((bi c).1 % 8)=(bi c).1 % 8:=wrp_in (k:= .i64) oC;simp only[og,l,m];omega
theorem ayu {c:aC}(h:lm c)(a:(sQ c).2.2=0):IM (sQ c).1:=by
 have k:=yD h;have kr:=fun a=>auH (c:=c) a h
 unfold sQ WE at a⊢;simp only[val_ob,val_lt,a_,val_ret]at a⊢;generalize qQ c=b at*;cases e:b.2.2.2 !=0 with
 | true=>
  rw[e]at a;have a:b.2.2.2=0:=a;rw[a]at e;cases e
 | false=>
  obtain⟨o,r⟩:=k (ji.1 e);obtain⟨q,l⟩:=kr (ji.1 e);rw[e]at a;simp only[og]at a⊢;have s:=ul o.1 (n:=1);generalize oZ b.2.2.1 1=i at*;cases g:i.2 !=0 with
  | true=>
   rw[g]at a;have a:i.2=0:=a;rw[a]at g;cases g
  | false=>
   obtain⟨m,_⟩:=s (ji.1 g);rw[g]at a;simp only[og]at a⊢;obtain⟨t1,t2,t3,t4,t5⟩:=ab_ m.1 (f:=Raw.mk b.1 b.2.1 0 []) l rfl rfl;generalize f_ i.1 (Raw.mk b.1 b.2.1 0 [])=d at*;cases j:d.2.1 !=0 with
   | true=>
    rw[j]at a;have a:d.2.1=0:=a;rw[a]at j;cases j
   | false=>
    have t1:d.2.2.Num=b.1:=t1;have t2:d.2.2.dF=b.2.1:=t2;have t4:b.2.1<=2->d.2.2.Data=[]:=t4;have t5:3<=b.2.1->d.2.2.Bits=0:=t5;show IM d.2.2
    exact Qq (by rw[t1];exact q) (by rw[t2];exact l) t3 (fun p=>t4 ah) (fun p=>t5 ah)
theorem KP {wire:Int}{r:ae}(h:lm r.c):isU64 (fK wire r).1.Bits:=by
 unfold fK yu;simp only[val_ob,val_lt,a_,val_ret];cases wire==3 with
 | true=>
  simp only[xU];cases(iV r).2.1 !=0<;>exact u0
 | false=>
  simp only[og];cases wire==2 with
  | true=>exact ac_
  | false=>exact(jU h).1
theorem akH {c:aC}(h:lm c){b:Int}(a:(y_ c b).2.2=0):((y_ c b).1.length:Int)+1<=(y_ c b).2.1.At - c.At:=by
 obtain⟨m,k⟩:=jU h;unfold y_ abC at a⊢;simp only[val_ob,val_lt,a_,val_ret,jv]at a⊢;cases e:(bi c).2.2 !=0 with
 | true=>
  rw[e]at a;have a:(bi c).2.2=0:=a;rw[a]at e;cases e
 | false=>
  obtain⟨f,n⟩:=k (ji.1 e);have d:=f.1;have l:=oM d;have j:thenS (bif b==3 then(Sum.inl c.Text:Int⊕(Str×aC×Int))else Sum.inl 65536)=thenS (.inl (bif b==3 then c.Text else 65536)):=by cases b==3<;>rfl
  rw[e]at a;simp only[og]at a⊢;rw[j]at a⊢;simp only[pJ]at a⊢;obtain⟨⟨p,w,o,x⟩,u⟩:=d;obtain⟨z,u2⟩:=m;rw[l,wrp_in (k:= .u64) oC]at a⊢;by_cases i:(bi c).2.1.End - (bi c).2.1.At < (bi c).1
  ·rw[pY i]at a;cases a
  rw[nU i]at a⊢;rw[wrp_in (k:= .i64) oC]at a⊢;by_cases g:(bif b==3 then c.Text else 65536) < (bi c).1
  ·rw[pY g]at a;cases a
  rw[nU g];simp only[og];rw[wrp_in (k:= .i64) oC];obtain⟨_,r,q,y,v,t,s⟩:=f;show((List.drop (bi c).2.1.At.toNat (List.take ((bi c).2.1.At+(bi c).1).toNat (bi c).2.1.Data)).length:Int)+1<=(bi c).2.1.At+(bi c).1 - c.At
  rw[Qa9,zU];omega
theorem UE {c:aC}(h:lm c){f:Raw}(d:f.Data=[])(b:(f_ c f).2.1=0):((f_ c f).2.2.Data.length:Int)+1<=(f_ c f).1.At - c.At:=by
 have j:=DR h b;have i:∀K:Bool->aC×Int×Raw,(thenS (bif f.dF==0 then(Sum.inl (f.dF==0):Bool⊕(aC×Int×Raw))else Sum.inl (f.dF==1)) K)=K (bif f.dF==0 then true else f.dF==1):=fun K=>by cases e:f.dF==0<;>rfl
 have a:=j.1.2.2.2.2.2.2;unfold f_ yB at b a⊢;simp only[val_ob,val_lt,a_,val_ret,jv]at b a⊢;rw[i]at b a⊢;cases e:(bif f.dF==0 then true else f.dF==1)with
 | true=>
  rw[e]at a;simp only[xU,d]at a⊢;simp only[uF];omega
 | false=>
  rw[e]at b a;cases g:f.dF==2 with
  | true=>
   rw[g]at a;simp only[xU,og,d]at a⊢;simp only[uF];omega
  | false=>rw[g]at b;exact akH h b
theorem amT {c:aC}(h:lm c)(a:(sQ c).2.2=0):((sQ c).1.Data.length:Int)+1<=(sQ c).2.1.At - c.At:=by
 have k:=yD h;unfold sQ WE at a⊢;simp only[val_ob,val_lt,a_,val_ret]at a⊢;generalize qQ c=b at*;cases e:b.2.2.2 !=0 with
 | true=>
  rw[e]at a;have a:b.2.2.2=0:=a;rw[a]at e;cases e
 | false=>
  obtain⟨j,o⟩:=k (ji.1 e);rw[e]at a;simp only[og]at a⊢;have s:=ul j.1 (n:=1);generalize oZ b.2.2.1 1=i at*;cases d:i.2 !=0 with
  | true=>
   rw[d]at a;have a:i.2=0:=a;rw[a]at d;cases d
  | false=>
   obtain⟨m,q,p,_⟩:=s (ji.1 d);rw[d]at a;simp only[og]at a⊢;have t:=UE m.1 (f:=Raw.mk b.1 b.2.1 0 []) rfl;generalize f_ i.1 (Raw.mk b.1 b.2.1 0 [])=l at*;cases g:l.2.1 !=0 with
   | true=>
    rw[g]at a;have a:l.2.1=0:=a;rw[a]at g;cases g
   | false=>
    have t:=t (ji.1 g);have r:=j.2.2.2.2.2.2;simp only[og];omega
theorem amg {c:aC}{n:Int}:(wY c n).1.length<=n.toNat:=by
 unfold wY ac6;simp only[val_ob,val_lt,a_,val_ret,Qa2];(repeat' split)<;>first | exact qR _ | skip
 show(txU (Zx c n)).length<=_
 rw[txU_len];unfold Zx YE;simp only[val_ob,val_lt,val_ret,zU];omega
theorem Dz {a:Int}{r:ae}(h:lm r.c)(b:(fK a r).2.1=0):Ah 1 r.c (fK a r).2.2.c/\(fK a r).2.2.p=r.p/\((fK a r).1.Data.length:Int)+1<=(fK a r).2.2.c.At - r.c.At/\(fK a r).1.Data.length<=1048576/\(fK a r).2.2.c.Nodes=r.c.Nodes:=by
 have i:Ah 1 r.c (fK a r).2.2.c/\(fK a r).2.2.p=r.p/\((fK a r).1.Data.length:Int)+1<=(fK a r).2.2.c.At - r.c.At/\(fK a r).2.2.c.Nodes=r.c.Nodes:=by
  unfold fK yu at b⊢;simp only[val_ob,val_lt,a_,val_ret]at b⊢;cases j:a==3 with
  | true=>
   rw[j]at b;simp only[xU]at b⊢;have k:=su h;generalize iV r=d at*;cases f:d.2.1 !=0 with
   | true=>
    rw[f]at b;have b:d.2.1=0:=b;rw[b]at f;cases f
   | false=>
    rw[f]at b;simp only[og]at b⊢;obtain⟨e,g,m,v,u⟩:=k (ji.1 f);obtain⟨t1,t2,t3,t4⟩:=akC e.1 (n:=d.1) b;have t5:=amg (c:=d.2.2.c) (n:=d.1);have l:=e.2.2.2.2.2.2;exact⟨jl (iZ e t1) h_,m,by show(((wY d.2.2.c d.1).1.length:Nat):Int)+1<=(wY d.2.2.c d.1).2.1.At - r.c.At;omega,t2.trans g⟩
  | false=>
   rw[j]at b;simp only[og]at b⊢;cases f:a==2 with
   | true=>
    rw[f]at b;simp only[xU]at b⊢;obtain⟨e,g⟩:=Rj h b;have l:=e.2.2.2.2.2.2;exact⟨e,by trivial,by simp only[uF];omega,g⟩
   | false=>
    rw[f]at b;simp only[og]at b⊢;obtain⟨e,g⟩:=(jU h).2 b;have l:=e.2.2.2.2.2.2;exact⟨e,by trivial,by simp only[uF];omega,g⟩
 obtain⟨f1,f2,f3,f4⟩:=i;refine⟨f1,f2,f3,?_,f4⟩;obtain⟨⟨p,s,o,t⟩,_⟩:=f1.1;obtain⟨⟨q,_⟩,_⟩:=h;omega
theorem Ho (v:AVal)(a:Int):((dQ v a).2=true/\∃s∈v.Slots,s.Num=a/\s.Val=(dQ v a).1)\/((dQ v a).2=false/\(dQ v a).1=AVal.mk 0 0 [] [] [] [] []):=by
 unfold dQ aoq;simp only[val_as,Ar];refine BO (d:=bn) (Q:=fun(r:AVal×Bool)=>(r.2=true/\∃s∈v.Slots,s.Num=a/\s.Val=r.1)\/(r.2=false/\r.1=AVal.mk 0 0 [] [] [] [] [])) (fun _ _=>True) v.Slots 0 () trivial (fun j y b _=> ?_) (fun y _=> ?_)
 ·simp only[iY,a_,val_ret,JH];cases e:(v.Slots.getD j bn).Num==a with
  | true=>exact .inl ⟨rfl,_,getD_mem b,eq_of_beq e,by rw[AVal.cZ]⟩
  | false=>trivial
 ·exact .inr ⟨rfl,rfl⟩
theorem akB {A:Type}{f:A->Nat}(p:A->Bool)(l:List A):smL f l=smL f (l.filter p)+smL f (l.filter fun a=> !p a):=by
 induction l with
 | nil=>rfl
 | cons a l b=>
  simp only[Qct];cases p a<;>simp[smL,b]<;>omega
theorem acl (g:aY)(v:AVal)(o:Op)(x:AVal)(h:v.Slots.length<=1048576):∃l,l.Sublist (v.Slots.filter fun s=> !(s.Num==o.Num))/\uN g v o x=AVal.mk 10 0 [] [] [] (l++[Slot.mk o.Num x]) v.bC:=(abJ g v o x h).2
theorem EP {g:aY}{v:AVal}{o:Op}{x:AVal}(h:v.Slots.length<=1048576):tV (uN g v o x)+(bif (dQ v o.Num).2 then 1+tV (dQ v o.Num).1 else 0)<=tV v+1+tV x:=by
 obtain⟨l,j,d⟩:=acl g v o x h;have q:=gQ v;have r:smL tS l<=smL tS (v.Slots.filter fun s=> !(s.Num==o.Num)):=rJ j;have p:=akB (f:=tS) (fun s:Slot=> !(s.Num==o.Num)) v.Slots;have n:=xg v.Slots;have e:tV (uN g v o x)=1+(smL tS l+(1+tV x))+UK v.bC:=by
  rw[d,gQ];simp only[AVal.Text,AVal.List,AVal.Pairs,AVal.Slots,AVal.bC,tVs,tPs,uF];rw[xg,ni];simp only[smL,yc,Slot.Val];omega
 rw[e];rcases Ho v o.Num with⟨b,s,i,m,c⟩ | ⟨b,_⟩
 ·have b:(dQ v o.Num).2=true:=b;have c:s.Val=(dQ v o.Num).1:=c;rw[b,<-c];have k:tS s<=smL tS (v.Slots.filter fun a=> !!(a.Num==o.Num)):=C_ (Qby.2 ⟨i,by simp[m]⟩);rw[yc]at k;simp only[xU];omega
 ·have b:(dQ v o.Num).2=false:=b;rw[b];simp only[og];omega
theorem EY {g:aY}{v:AVal}{o:Op}{x:AVal}(h:v.Slots.length<=1048576)(c:kV v)(b:kV x):kV (uN g v o x):=by
 obtain⟨l,e,d⟩:=acl g v o x h;have i:=((gW v).1 c).1.2;have f:=((gW v).1 c).2.2.2;rw[d,gW];refine⟨⟨u0,i⟩,fun x b=>absurd b (YH),fun x b=>absurd b (YH),fun y a=> ?_⟩;have a:y∈l++[Slot.mk o.Num x]:=a;rcases xN.1 a with a | a
 ·exact f y (Qby.1 (e.subset a)).1
 ·rw[Be.1 a];exact b
theorem C9 {v:AVal}{a:Int}(e:kV v):kV (dQ v a).1:=by
 rcases Ho v a with⟨d,s,b,f,c⟩ | ⟨d,b⟩
 ·have c:s.Val=(dQ v a).1:=c;rw[<-c];exact((gW v).1 e).2.2.2 s b
 ·have b:(dQ v a).1=_:=b;rw[b];exact(je 0 0 [] u0).1
theorem OD {v:AVal}{num:Int}:tV (dQ v num).1<=tV v/\((dQ v num).2=false->tV (dQ v num).1=1):=by
 rcases Ho v num with⟨b,s,a,d,c⟩ | ⟨b,a⟩
 ·have c:s.Val=(dQ v num).1:=c;have b:(dQ v num).2=true:=b;refine⟨?_,fun h=>by rw[b]at h;cases h⟩;have:=ZE a;have:=gQ v;rw[<-c];omega
 ·have a:(dQ v num).1=_:=a;have e:tV (dQ v num).1=1:=by rw[a];simp[tV,tVs,tPs,tSs,UK]
  exact⟨by have:=jH v;omega,fun _=>e⟩
theorem KW (l x:AVal):oI l x=AVal.mk 11 0 [] (l.List++[x]) [] [] []:=by
 unfold oI Oi;simp only[val_as,val_ob,val_ret,yS,AVal.cZ]
theorem JM {l x:AVal}:tV (oI l x)<=tV l+1+tV x:=by
 rw[KW,gQ,gQ l];simp only[AVal.Text,AVal.List,AVal.Pairs,AVal.Slots,AVal.bC,tPs,tSs,UK,uF];rw[xq,xq,ni];simp only[smL];omega
theorem JZ {l x:AVal}(d:kV l)(b:kV x):kV (oI l x):=by
 have c:=((gW l).1 d).2.1;rw[KW,gW];refine⟨⟨u0,fun x b=>absurd b (YH)⟩,fun y a=> ?_,fun x b=>absurd b (YH),fun y a=>absurd a (YH)⟩;have a:y∈l.List++[x]:=a;rcases xN.1 a with a | a
 ·exact c y a
 ·rw[Be.1 a];exact b
theorem SH (v:AVal)(f:Raw):vN v f=AVal.mk v.Kind v.Bits v.Text v.List v.Pairs v.Slots (v.bC++[f]):=by
 unfold vN X8;simp only[val_as,val_ob,val_ret,yS]
theorem ac1 {v:AVal}{f:Raw}:tV (vN v f)=tV v+1+f.Data.length:=by
 rw[SH,gQ,gQ v];simp only[AVal.Text,AVal.List,AVal.Pairs,AVal.Slots,AVal.bC];rw[Aq,Aq,ni];simp only[smL];cases v;simp only[AVal.Text,AVal.List,AVal.Pairs,AVal.Slots,AVal.bC];omega
theorem aa_ {v:AVal}{f:Raw}(c:kV v)(a:IM f):kV (vN v f):=by
 have h:=(gW v).1 c;rw[SH,gW];exact⟨⟨h.1.1,fun r b=>(xN.1 b).elim (h.1.2 r) fun e=>by rw[Be.1 e];exact a⟩,h.2⟩
theorem QY {p:bJ}{o:Op}{f:Raw}(e:isU64 f.Bits)(d:(rZ p o f).2=0):tV (rZ p o f).1<=1+f.Data.length/\kV (rZ p o f).1/\(rZ p o f).1.Kind=o.Kind/\fA o.Kind=true:=by
 unfold rZ XT at d⊢;simp only[val_ob,val_lt,a_,val_ret,jv,AVal.cZ]at d⊢;cases i:fA o.Kind with
 | false=>rw[i]at d;cases d
 | true=>
  rw[i]at d;simp only[Qdg,og]at d⊢;cases j:f.dF !=Az o with
  | true=>rw[j]at d;cases d
  | false=>
   rw[j]at d;simp only[og]at d⊢;cases l:f.dF==3 with
   | true=>
    rw[l]at d;simp only[xU]at d⊢;have k:=je o.Kind 0 f.Data u0;cases g:o.Kind==7 with
    | true=>
     rw[g]at d;simp only[xU]at d⊢;cases h:yN f.Data with
     | false=>rw[h]at d;cases d
     | true=>exact⟨Qcu k.2,k.1,by trivial,by trivial⟩
    | false=>exact⟨Qcu k.2,k.1,by trivial,by trivial⟩
   | false=>
    rw[l]at d;simp only[og]at d⊢;have n:∀(c:Bool) (K:AVal->AVal×Int) (a b:AVal),thenS (bif c then(Sum.inl a:AVal⊕(AVal×Int))else Sum.inl b) K=K (bif c then a else b):=fun c K a b=>by cases c<;>rfl
    rw[n]at d⊢;have e:∃bits,(bif f.dF==1 then AVal.mk o.Kind (wrp .u64 (aAV f.Bits)) [] [] [] [] []else AVal.mk o.Kind f.Bits [] [] [] [] [])=AVal.mk o.Kind bits [] [] [] [] []/\isU64 bits:=by cases f.dF==1<;>first | exact⟨_,rfl,e⟩ | exact⟨_,rfl,LQ _⟩
    obtain⟨bits,e,t⟩:=e;rw[e]at d⊢;obtain⟨m,r⟩:=je o.Kind bits [] t;have q:tV (lS (AVal.mk o.Kind bits [] [] [] [] []))<=1+f.Data.length/\kV (lS (AVal.mk o.Kind bits [] [] [] [] []))/\(lS (AVal.mk o.Kind bits [] [] [] [] [])).Kind=o.Kind/\True:=
     ⟨by rw[X3,r];simp,Nr m,(wP _).1,trivial⟩
    cases g:QU o.Kind (AVal.mk o.Kind bits [] [] [] [] [])with
    | false=>rw[g]at d;cases d
    | true=>
     rw[g]at d;simp only[Qdg,og]at d⊢;cases h:o.Kind==9 with
     | false=>exact⟨q.1,q.2.1,q.2.2.1,by trivial⟩
     | true=>
      rw[h]at d;simp only[xU]at d⊢;cases s:ahW p o.Target (AVal.mk o.Kind bits [] [] [] [] []).Bits with
      | false=>rw[s]at d;cases d
      | true=>exact⟨q.1,q.2.1,q.2.2.1,by trivial⟩
def TN (p:bJ)(o:Op):Prop:=(o.Kind=10->0<=o.Target/\o.Target < p.aO.length)/\(o.Card=5->fA o.Key=true)/\1<=o.Num/\o.Num<=65535
def bZ (p:bJ):Prop:=∀g∈p.aO,g.Ops.length<=1048576/\∀o∈g.Ops,TN p o
def Fb (v:AVal)(r:ae):Prop:=lm r.c/\bZ r.p/\kV v/\(tV v:Int)+8*(r.c.End - r.c.At)<=1048576
def Dv (k s:Int)(v:AVal)(r:ae)(x:AVal×Int×ae):Prop:=x.2.1=0->x.2.2.p=r.p/\Ah k r.c x.2.2.c/\kV x.1/\(tV x.1:Int)+s<=tV v+8*(x.2.2.c.At - r.c.At)
theorem az2 {v:AVal}{r:ae}(h:Fb v r):gV v:=⟨h.2.2.1,by obtain⟨⟨⟨c,a,d,e⟩,_⟩,_,_,b⟩:=h;omega⟩
theorem Gw {v:AVal}{r:ae}(h:Fb v r):v.bC.length<=1048576/\v.Slots.length<=1048576/\v.List.length<=1048576/\mf v.Pairs:=oh (az2 h)
theorem av3 {k s:Int}{v w:AVal}{r a:ae}(h:Fb v r)(i:0<=s)(e:a.p=r.p)(b:Ah k r.c a.c)(d:kV w)(l:(tV w:Int)+s<=tV v+8*(a.c.At - r.c.At)):Fb w a:=by
 obtain⟨f,c,g,m⟩:=h;have j:=b.2.2.1;exact⟨b.1,by rw[e];exact c,d,by omega⟩
theorem eQ {k s:Int}{v:AVal}{r:ae}{x:AVal×Int×ae}(h:¬x.2.1=0):Dv k s v r x:=fun e=>absurd e h
theorem PZ {v:AVal}{r:ae}(h:Fb v r)(num:Int):(dQ v num).1.List.length<=1048576/\mf (dQ v num).1.Pairs:=by
 have b:=az2 h;have a:gV (dQ v num).1:=⟨C9 b.1,by have:=(OD (v:=v) (num:=num)).1;have:=b.2;omega⟩;exact⟨(oh a).2.2.1,(oh a).2.2.2⟩
theorem tZ {r:ae}{n:Int}(h:lm r.c)(a:(kX n r).1=0):(kX n r).2.p=r.p/\Ah 0 r.c (kX n r).2.c/\(kX n r).2.c.At=r.c.At:=by
 unfold kX ag1 at a⊢;simp only[val_lt,val_ret]at a⊢;obtain⟨b,d,c,_⟩:=ul h a;exact⟨by trivial,b,c⟩
theorem al_ {c:aC}(h:lm c)(a:(EC c).2.2=0):Ah 1 c (EC c).2.1/\(EC c).2.1.Nodes=c.Nodes/\(EC c).2.1.At=c.At+1:=by
 have d:=oM h;unfold EC ah8 at a⊢;simp only[iY,val_lt,a_,val_ret]at a⊢;rw[d]at a⊢;by_cases b:c.End - c.At < 1
 ·rw[pY b]at a;cases a
 rw[nU b];refine⟨Cb h h_ ah h_,?_,?_⟩
 ·show(oW c 1).Nodes=_;rw[(CU h (n:=1) ah ah).1]
 ·show(oW c 1).At=_;rw[(CU h (n:=1) ah ah).1]
def sV (c:aC)(n:Int):aC:=aC.mk c.Data c.At (c.At+n) c.Depth c.Nodes c.Text
theorem abE {c:aC}{n:Int}(h:lm c)(g:0<=n)(e:n<=c.End - c.At):lm (sV c n):=by
 obtain⟨⟨a,i,f,b⟩,d⟩:=h;exact⟨⟨a,by show c.At<=c.At+n;omega,by show c.At+n<=c.Data.length;omega,b⟩,d⟩
theorem acd {r:ae}{n:Int}(h:lm r.c)(c:0<=n)(a:n<=r.c.End - r.c.At):RJ n r=(r.c,ae.mk r.p (sV r.c n)):=by
 obtain⟨⟨e,d,b,f⟩,g⟩:=h;unfold RJ auC sV;simp only[val_ret];rw[wrp_in (k:= .i64) oC]
theorem Pm {c d:aC}{n:Int}(h:lm c)(t:0<=n)(r:n<=c.End - c.At)(b:Ah 0 (sV c n) d):Ah n c (aC.mk c.Data d.End c.End c.Depth d.Nodes c.Text):=by
 obtain⟨⟨⟨k,s,l,u⟩,o,a,p⟩,d2,d3,d4,d5,d6,d7⟩:=b;obtain⟨⟨j,m,e,g⟩,f,q,i⟩:=h;have d3:d.End=c.At+n:=d3;have d6:d.Nodes<=c.Nodes:=d6;exact⟨⟨⟨by show 0<=d.End;omega,by show d.End<=c.End;omega,e,g⟩,f,⟨a.1,a.2⟩,i⟩,rfl,rfl,rfl,rfl,d6,by show c.At+n<=d.End;omega⟩
theorem at_end {c:aC}(h:lm c)(a:¬0 < ru c):c.At=c.End:=by
 rw[oM h]at a;obtain⟨⟨e,d,b,f⟩,_⟩:=h;omega
theorem ap3 {c d:aC}(h:lm c)(b:c.At<=d.End)(a:d.End<=c.End)(e:0<=d.Nodes)(f:d.Nodes<=c.Nodes):CQ c d=aC.mk c.Data d.End c.End c.Depth d.Nodes c.Text:=by
 unfold CQ aeS;simp only[a_,val_ret];rw[Ji h,nU (show ¬d.End < c.At by omega),nU (show ¬c.End < d.End by omega),nU (show ¬d.Nodes < 0 by omega),nU (show ¬c.Nodes < d.Nodes by omega)];rfl
theorem aep {c:aC}(h:lm c){n:Int}(a:(Ol c n).2=0):Ol c n=(aC.mk c.Data c.At (c.At+n) (c.Depth - 1) c.Nodes c.Text,0)/\0<=n/\n<=c.End - c.At/\1<=c.Depth:=by
 have f:=oM h;obtain⟨⟨m,l,j,o⟩,⟨p,g⟩,i⟩:=h;unfold Ol afU at a⊢;simp only[val_lt,a_,val_ret]at a⊢;rw[f]at a⊢;by_cases d:n < 0
 ·rw[pY d]at a;cases a
 rw[nU d]at a⊢;by_cases b:c.End - c.At < n
 ·rw[pY b]at a;cases a
 rw[nU b]at a⊢;by_cases e:c.Depth < 1
 ·rw[pY e]at a;cases a
 rw[nU e];rw[wrp_in (k:= .i64) (show InR .i64 (c.At+n) by simp only[InR];omega),wrp_in (k:= .i64) (show InR .i64 (c.Depth - 1) by simp only[InR];omega)];exact⟨rfl,by omega,by omega,by omega⟩
def av7 (g:aY)(v:AVal)(o:Op)(r:ae):Pg (AVal×Int×ae):=.lt (kX 1 r) fun c=> .br (c.1 !=0) (.ret (v.re,c)) (.ob (lm c.2.c) (.lt (fK (Az o) c.2) fun a=> .br (a.2.1 !=0) (.ret (v.re,a.2)) (.ob (List.length a.1.Data<=1048576) (.lt (rZ a.2.2.p o a.1) fun b=> .br (b.2==16) (.ob (v.re.bC.length<=1048576) (.ret ((vN v.re (Raw.mk o.Num 0 a.1.Bits [])).re,0,a.2.2))) (.br (b.2 !=0) (.ret (v.re,b.2,a.2.2)) (.br (o.Card !=4) (.ob (v.re.Slots.length<=1048576) (.ret ((uN g v.re o b.1.re).re,0,a.2.2))) (.lt (uN g v.re o (oI (dQ v.re o.Num).1.re b.1.re).re) fun f=> .lt (dQ v.re o.Num) fun d=> .br (!d.2) (.lt (kX 1 a.2.2) fun e=> .br (e.1 !=0) (.ret (v.re,e)) (.ob (d.1.re.List.length<=1048576) (.ob (v.re.Slots.length<=1048576) (.ret (f.re,0,e.2))))) (.ob (d.1.re.List.length<=1048576) (.ob (v.re.Slots.length<=1048576) (.ret (f.re,0,a.2.2)))))))))))
def zY (g:aY)(v:AVal)(o:Op)(r:ae):=(av7 g v o r).val
theorem RP (g:aY)(v:AVal)(o:Op)(r:ae)(h:Fb v r/\1<=o.Num/\o.Num<=65535):IsP (av7 g v o r) (Dv 1 0 v r):=
 by
 obtain⟨h,L⟩:=h;have b:=Gw h;have z:=PZ h o.Num;have t:=h.1;unfold av7;simp only[AVal.cZ];refine isP_lt fun W y=>isP_bne (fun a=>isP_ret (eQ a)) fun E=> ?_;rw[y]at E⊢;obtain⟨K,n,U⟩:=tZ t E;generalize kX 1 r=O at*;refine isP_ob n.1 (isP_lt fun v2 w=>isP_bne (fun a=>isP_ret (eQ a)) fun A=> ?_);rw[w]at A⊢;obtain⟨J,I,Q,H,_⟩:=Dz n.1 A;have F:=KP (wire:=Az o) n.1;generalize fK (Az o) O.2=c at*;have m:c.2.2.p=r.p:=I.trans K;have d:Ah 1 r.c c.2.2.c:=jl (iZ n J) h_;have S:=d.2.2.1;have X:=d.2.2.2.2.2.2;refine isP_ob H (isP_lt fun V B=>isP_beq (fun q=>isP_ob b.1 (isP_ret fun _=>⟨m,d,aa_ h.2.2.1 (Qq (f:=Raw.mk o.Num 0 c.1.Bits []) L ⟨AA 0,(by decide:(0:Int)<=6)⟩ F (fun _=>rfl) (fun q=>absurd q (by decide:¬(3:Int)<=0))),?_⟩)) fun q=>isP_bne (fun a=>isP_ret (eQ a)) fun u=> ?_)
 ·show(tV (vN v (Raw.mk o.Num 0 c.1.Bits [])):Int)+0<=tV v+8*(c.2.2.c.At - r.c.At)
  rw[ac1];simp only[uF];omega
 rw[B]at u⊢;obtain⟨Y,s,R,k4⟩:=QY F u;generalize rZ c.2.2.p o c.1=i at*;have t1:=EP (g:=g) (v:=v) (o:=o) (x:=i.1) b.2.1;refine isP_bne (fun a=>isP_ob b.2.1 (isP_ret fun _=>⟨m,d,EY b.2.1 h.2.2.1 s,?_⟩)) fun Z=>isP_lt fun C e=>isP_lt fun T j=>isP_br (fun k=>isP_lt fun v6 D=>isP_bne (fun a=>isP_ret (eQ a)) fun p=> ?_) (fun k=> ?_)
 ·show(tV (uN g v o i.1):Int)+0<=tV v+8*(c.2.2.c.At - r.c.At)
  omega
 ·rw[D]at p⊢;obtain⟨M,G,P⟩:=tZ d.1 p;rw[j];refine isP_ob z.1 (isP_ob b.2.1 (isP_ret fun _=>⟨M.trans m,jl (iZ d G) h_,by rw[e];exact EY b.2.1 h.2.2.1 (JZ (C9 h.2.2.1) s),?_⟩));show(tV C:Int)+0<=tV v+8*((kX 1 c.2.2).2.c.At - r.c.At)
  have t2:=EP (g:=g) (v:=v) (o:=o) (x:=oI (dQ v o.Num).1 i.1) b.2.1;have t3:=JM (l:=(dQ v o.Num).1) (x:=i.1);have t4:=(OD (v:=v) (num:=o.Num)).2 (by rw[j]at k;simpa using k);rw[<-e]at t2;omega
 ·rw[j]at k⊢;refine isP_ob z.1 (isP_ob b.2.1 (isP_ret fun _=>⟨m,d,by rw[e];exact EY b.2.1 h.2.2.1 (JZ (C9 h.2.2.1) s),?_⟩));show(tV C:Int)+0<=tV v+8*(c.2.2.c.At - r.c.At)
  have t2:=EP (g:=g) (v:=v) (o:=o) (x:=oI (dQ v o.Num).1 i.1) b.2.1;have t3:=JM (l:=(dQ v o.Num).1) (x:=i.1);have N:(dQ v o.Num).2=true:=by simpa using k
  rw[<-e,N]at t2;simp only[xU]at t2;omega
def anU:Ent Z:=Ae [Bf,GK,adu,Ie,Xl,VD,MB,U4] [] (aCons (fG 0) (aCons (aAgg fJ) (aCons (aAgg ay) (a1 (aAgg gU))))) (b1 (aF aK)) (shr [.slot 0 true (nn 7), s0 1, .cells 0 (nn 8)] (lCons ay (lCons cI (l1 aK)))) [] func312 2 (fun a=>av7 a.1.2.1 a.1.2.2.1 a.1.2.2.2 a.2) (fun a=>Fb a.1.2.2.1 a.2/\1<=a.1.2.2.2.Num/\a.1.2.2.2.Num<=65535) fun a h=>(RP a.1.2.1 a.1.2.2.1 a.1.2.2.2 a.2 h).1
def akf (g:aY)(v:AVal)(o:Op)(r:ae):Pg (AVal×Int×ae):=.ob (lm r.c) (.lt (iV r) fun e=> .br (e.2.1 !=0) (.ret (v.re,e.2)) (.lt (RJ e.1 e.2.2) fun b=> .ob (lm b.2.c) (.lt (EC b.2.c) fun c=> .br (c.2.2 !=0) (.ret (v.re,c.2.2,b.2)) (.lt (wrp .i64 c.1) fun j=> .br (j !=Az o) (.ret (v.re,13,ae.mk b.2.p c.2.1)) (.cut (fun(h:ae×AVal)=> .wh ((r.c.End - r.c.At).toNat+1) default (fun(a:ae×AVal)=> .lt (ru a.1.c) fun i=> .br (decide (0 < i)) (.ob (Fb a.2.re a.1/\1<=o.Num/\o.Num<=65535) (.lt (zY g a.2.re o a.1) fun d=> .br (d.2.1 !=0) (.ret (.inr (d.1.re,d.2))) (rl (d.2.2,d.1.re)))) (.ret (.inr (a.2.re,0,aaV b.1 a.1)))) (h.1,h.2.re)) (.br (!(dQ v.re o.Num).2) (.lt (kX 1 (ae.mk b.2.p c.2.1)) fun f=> .br (f.1 !=0) (.ret (.inr (v.re,f))) (.ob (v.re.Slots.length<=1048576) (rl (f.2,(uN g v.re o (AVal.mk 11 0 [] [] [] [] [])).re)))) (rl (ae.mk b.2.p c.2.1,v.re))))))))
def aBD (g:aY)(v:AVal)(o:Op)(r:ae):=(akf g v o r).val
theorem VO (g:aY)(v:AVal)(o:Op)(r:ae)(h:Fb v r/\1<=o.Num/\o.Num<=65535):IsP (akf g v o r) (Dv 0 0 v r):=
 by
 obtain⟨h,L⟩:=h;have p:=Gw h;have e:=h.1;unfold akf;simp only[AVal.cZ];refine isP_ob e (isP_lt fun v3 H=>isP_bne (fun b=>isP_ret (eQ b)) fun I=> ?_);rw[H]at I⊢;obtain⟨l1,l2,D,q,s⟩:=su e I;generalize iV r=a at*;have l7:=l1.2.2.2.2.2.2;have le:=l1.2.2.1;have B:=abE l1.1 q s;rw[acd l1.1 q s];refine isP_lt fun v4 F=> ?_;subst F;refine isP_ob B (isP_lt fun v5 w=>isP_bne (fun b=>isP_ret (eQ b)) fun N=>isP_lt fun v6 ac=>isP_bne (fun b=>isP_ret (eQ qck)) fun h6=> ?_);rw[w]at N⊢;obtain⟨b1,Q,u⟩:=al_ B N;show IsP (Pg.cut _ _) _
 dsimp only at b1 Q u⊢;generalize EC (sV a.2.2.c a.1)=j at*;have f:(sV a.2.2.c a.1).At=a.2.2.c.At:=rfl;have l:(sV a.2.2.c a.1).End=a.2.2.c.At+a.1:=rfl;rw[f]at u;refine isP_cut (fun y=>y.1.p=r.p/\Ah 0 (sV a.2.2.c a.1) y.1.c/\kV y.2/\(tV y.2:Int)<=tV v+8*(y.1.c.At - a.2.2.c.At)) ?_ (fun y C=>isP_wh (fun x=>x.1.p=r.p/\Ah 0 (sV a.2.2.c a.1) x.1.c/\kV x.2/\(tV x.2:Int)<=tV v+8*(x.1.c.At - a.2.2.c.At)) (fun x=>(x.1.c.End - x.1.c.At).toNat) C ?_ fun x Z=> ?_)
 ·refine isP_br (fun V=>isP_lt fun v9 X=>isP_bne (fun b=>isP_ret (eQ b)) fun O=> ?_) (fun V=>isP_ret ⟨D,jl b1 h_,h.2.2.1,by show(tV v:Int)<=tV v+8*(j.2.1.At - a.2.2.c.At);omega⟩);rw[X]at O⊢;obtain⟨i,c,d⟩:=tZ (r:=ae.mk a.2.2.p j.2.1) b1.1 O;refine isP_ob p.2.1 (isP_ret ⟨i.trans D,jl (iZ b1 c) h_,EY p.2.1 h.2.2.1 (je 11 0 [] u0).1,?_⟩);have t2:=EP (g:=g) (v:=v) (o:=o) (x:=AVal.mk 11 0 [] [] [] [] []) p.2.1;have t3:=(je 11 0 [] u0).2;have d:(kX 1 (ae.mk a.2.2.p j.2.1)).2.c.At=j.2.1.At:=d;simp only[uF]at t3;show(tV (uN g v o (AVal.mk 11 0 [] [] [] [] [])):Int)<=tV v+8*((kX 1 (ae.mk a.2.2.p j.2.1)).2.c.At - a.2.2.c.At)
  omega
 ·obtain⟨y1,⟨⟨⟨q1,q2,q3,q4⟩,_⟩,aa,t,ab,ad,ag,G⟩,y3,y4⟩:=C;rw[l]at t;rw[f]at G;have:=e.1.1;show(y.1.c.End - y.1.c.At).toNat < (r.c.End - r.c.At).toNat+1
  omega
 ·obtain⟨i,c,d,x4⟩:=Z;have Y:=c.2.2.1;have W:=c.2.2.2.2.2.2;rw[l]at Y;rw[f]at W;have m:Fb x.2 x.1:=⟨c.1,by rw[i];exact h.2.1,d,by have:=h.2.2.2;omega⟩;refine isP_lt fun v7 A=>isP_brd (fun al=> ?_) (fun n=>isP_ret ?_)
  ·refine isP_ob ⟨m,L⟩ (isP_lt fun v8 R=>isP_bne (fun b=>isP_ret (eQ b)) fun E=>isP_ret ?_);rw[R]at E⊢;obtain⟨P,k,T,M⟩:=(RP g x.2 o x.1 ⟨m,L⟩).2 E;have z:=k.2.2.2.2.2.2;have J:=k.2.2.1;have K:=k.1.1.2.1;refine⟨⟨P.trans i,jl (iZ c k) h_,T,?_⟩,?_⟩
   ·show(tV (zY g x.2 o x.1).1:Int)<=tV v+8*((zY g x.2 o x.1).2.2.c.At - a.2.2.c.At)
    have M:(tV (zY g x.2 o x.1).1:Int)+0<=tV x.2+8*((zY g x.2 o x.1).2.2.c.At - x.1.c.At):=M;omega
   ·show((zY g x.2 o x.1).2.2.c.End - (zY g x.2 o x.1).2.2.c.At).toNat < (x.1.c.End - x.1.c.At).toNat
    have z:x.1.c.At+1<=(zY g x.2 o x.1).2.2.c.At:=z;have J:(zY g x.2 o x.1).2.2.c.End=x.1.c.End:=J;have K:(zY g x.2 o x.1).2.2.c.At<=(zY g x.2 o x.1).2.2.c.End:=K;omega
  ·rw[A]at n;have U:=at_end c.1 n;have S:=Pm l1.1 q s c;refine fun _=>⟨i,jl (iZ l1 S) ah,d,?_⟩;show(tV x.2:Int)+0<=tV v+8*(x.1.c.End - r.c.At)
   omega
def ayj:Ent Z:=Ae [Bf,GK,wQ,Ie,anU,Cm,akm,UZ,Xl,aym] [jS 17 (aT (fun b=>[.cells (pid (b 0)) (nn 8), .cells (pid (b 6)) (nn 7)]) (lCons aK (l1 ay))),jS 100017 (aT (fun b=>[.cells (pid (b 0)) (nn 8), .cells (pid (b 6)) (nn 7)]) (lCons aK (l1 ay)))] (aCons (fG 0) (aCons (aAgg fJ) (aCons (aAgg ay) (a1 (aAgg gU))))) (b1 (aF aK)) (shr [.slot 0 true (nn 7), s0 1, .cells 0 (nn 8)] (lCons ay (lCons cI (l1 aK)))) [] func309 2 (fun a=>akf a.1.2.1 a.1.2.2.1 a.1.2.2.2 a.2) (fun a=>Fb a.1.2.2.1 a.2/\1<=a.1.2.2.2.Num/\a.1.2.2.2.Num<=65535) fun a h=>(VO a.1.2.1 a.1.2.2.1 a.1.2.2.2 a.2 h).1
def XH (k:Int->AVal->ae->AVal×Int×ae)(gm:Int->AVal->ae->Prop)(f:aY->AVal->Op->Int->ae->AVal×Int×ae)(iL:aY->AVal->Op->Int->ae->Prop)(n:Int->AVal->Int->ae->AVal×Int×ae)(dZ:Int->AVal->Int->ae->Prop)(l:aY->AVal->Op->ae->AVal×Int×ae)(gp:aY->AVal->Op->ae->Prop)(m:aY->AVal->Op->ae->AVal×Int×ae)(iQ:aY->AVal->Op->ae->Prop)(j:Op->Int->ae->AVal×Int×ae)(jf:Op->Int->ae->Prop)(prog:Int)(v:AVal)(r:ae):Pg (AVal×Int×ae):=.ix prog r.p.aO.length (.wh ((r.c.End - r.c.At).toNat+1) default (fun(c:ae×AVal)=> .lt (ru c.1.c) fun i=> .br (decide (0 < i)) (.ob (lm c.1.c) (.lt (qQ c.1.c) fun b=> .br (b.2.2.2 !=0) (.ret (.inr (c.2.re,b.2.2.2,c.1))) (.cut (fun(e:ae×AVal)=> .ob (lm c.1.c) (.lt (sQ c.1.c) fun g=> .br (g.2.2 !=0) (.ret (.inr (e.2.re,g.2.2,e.1))) (.ob (e.2.re.bC.length<=1048576) (rl (ae.mk e.1.p g.2.1,(vN e.2.re g.1).re))))) (.as ((r.p.aO.getD prog.toNat bH).Ops.length<=9223372036854775807) (.each false lF (r.p.aO.getD prog.toNat bH).Ops x9 (fun h d (a:ae×AVal)=> .ix h (r.p.aO.getD prog.toNat bH).Ops.length (.br (d.Num !=b.1) (rl (a.1,a.2.re)) (.ob (iL (r.p.aO.getD prog.toNat bH) a.2.re d b.2.1 (ae.mk a.1.p b.2.2.1)) (.br ((f (r.p.aO.getD prog.toNat bH) a.2.re d b.2.1 (ae.mk a.1.p b.2.2.1)).2.1 !=0) (.ret (.inr (.inr (.inr ((f (r.p.aO.getD prog.toNat bH) a.2.re d b.2.1 (ae.mk a.1.p b.2.2.1)).1.re, (f (r.p.aO.getD prog.toNat bH) a.2.re d b.2.1 (ae.mk a.1.p b.2.2.1)).2))))) (.ret (.inr (.inr (.inl ((f (r.p.aO.getD prog.toNat bH) a.2.re d b.2.1 (ae.mk a.1.p b.2.2.1)).2.2, (f (r.p.aO.getD prog.toNat bH) a.2.re d b.2.1 (ae.mk a.1.p b.2.2.1)).1.re))))))))) (fun h (a:ae×AVal)=> rl (a.1,a.2.re)) (c.1,c.2.re)))))) (.ret (.inr (c.2.re,0,c.1)))) (r,v.re))
def agN (i:Int->AVal->ae->AVal×Int×ae)(gm:Int->AVal->ae->Prop)(h:aY->AVal->Op->Int->ae->AVal×Int×ae)(iL:aY->AVal->Op->Int->ae->Prop)(j:Int->AVal->Int->ae->AVal×Int×ae)(dZ:Int->AVal->Int->ae->Prop)(b:aY->AVal->Op->ae->AVal×Int×ae)(gp:aY->AVal->Op->ae->Prop)(e:aY->AVal->Op->ae->AVal×Int×ae)(iQ:aY->AVal->Op->ae->Prop)(f:Op->Int->ae->AVal×Int×ae)(jf:Op->Int->ae->Prop)(g:aY)(v:AVal)(o:Op)(w:Int)(r:ae):Pg (AVal×Int×ae):=.br (o.Card==5) (.br (w !=6) (.ret (v.re,13,r)) (.ob (iQ g v.re o r) (.ret ((e g v.re o r).1.re,(e g v.re o r).2)))) (.lt (zY g v.re o r) fun a=> .lt (Az o) fun d=> .br (w==5) (.br (jE o) (.ob (Fb v.re r/\1<=o.Num/\o.Num<=65535) (.lt (aBD g v.re o r) fun c=> .ret (c.1.re,c.2))) (.br (w !=d) (.ret (v.re,13,r)) (.br (o.Kind==10) (.ob (gp g v.re o r) (.ret ((b g v.re o r).1.re,(b g v.re o r).2))) (.ob (Fb v.re r/\1<=o.Num/\o.Num<=65535) (.ret (a.1.re,a.2)))))) (.br (w !=d) (.ret (v.re,13,r)) (.br (o.Kind==10) (.ob (gp g v.re o r) (.ret ((b g v.re o r).1.re,(b g v.re o r).2))) (.ob (Fb v.re r/\1<=o.Num/\o.Num<=65535) (.ret (a.1.re,a.2))))))
def Z5 (d:Int->AVal->ae->AVal×Int×ae)(gm:Int->AVal->ae->Prop)(g:aY->AVal->Op->Int->ae->AVal×Int×ae)(iL:aY->AVal->Op->Int->ae->Prop)(k:Int->AVal->Int->ae->AVal×Int×ae)(dZ:Int->AVal->Int->ae->Prop)(i:aY->AVal->Op->ae->AVal×Int×ae)(gp:aY->AVal->Op->ae->Prop)(j:aY->AVal->Op->ae->AVal×Int×ae)(iQ:aY->AVal->Op->ae->Prop)(h:Op->Int->ae->AVal×Int×ae)(jf:Op->Int->ae->Prop)(prog:Int)(a:AVal)(f:Int)(r:ae):Pg (AVal×Int×ae):=.ob (lm r.c) (.lt (iV r) fun c=> .br (c.2.1 !=0) (.ret (a.re,c.2)) (.lt (Ol c.2.2.c c.1) fun e=> .br (e.2 !=0) (.ret (a.re,e.2,ae.mk c.2.2.p e.1)) (.lt (kX f (ae.mk c.2.2.p e.1)) fun b=> .br (b.1 !=0) (.ret (a.re,b)) (.ob (gm prog a.re b.2) (.br ((d prog a.re b.2).2.1 !=0) (.ret (a.re,(d prog a.re b.2).2)) (.ret ((d prog a.re b.2).1.re,0, ae.mk (d prog a.re b.2).2.2.p (CQ c.2.2.c (d prog a.re b.2).2.2.c))))))))
def Yv (h:Int->AVal->ae->AVal×Int×ae)(gm:Int->AVal->ae->Prop)(f:aY->AVal->Op->Int->ae->AVal×Int×ae)(iL:aY->AVal->Op->Int->ae->Prop)(a:Int->AVal->Int->ae->AVal×Int×ae)(dZ:Int->AVal->Int->ae->Prop)(i:aY->AVal->Op->ae->AVal×Int×ae)(gp:aY->AVal->Op->ae->Prop)(j:aY->AVal->Op->ae->AVal×Int×ae)(iQ:aY->AVal->Op->ae->Prop)(e:Op->Int->ae->AVal×Int×ae)(jf:Op->Int->ae->Prop)(g:aY)(v:AVal)(o:Op)(r:ae):Pg (AVal×Int×ae):=.lt (dQ v.re o.Num) fun c=> .br (o.Card==4) (.cut (fun(b:Int)=> .ob (dZ o.Target (AVal.mk 10 0 [] [] [] [] []) b r) (.br ((a o.Target (AVal.mk 10 0 [] [] [] [] []) b r).2.1 !=0) (.ret (v.re,(a o.Target (AVal.mk 10 0 [] [] [] [] []) b r).2)) (.ob (c.1.re.List.length<=1048576) (.ob (v.re.Slots.length<=1048576) (.ret ((uN g v.re o (oI c.1.re (a o.Target (AVal.mk 10 0 [] [] [] [] []) b r).1.re).re).re,0, (a o.Target (AVal.mk 10 0 [] [] [] [] []) b r).2.2)))))) (.br (!c.2) (rl 2) (rl 1))) (.cut (fun(d:AVal)=> .ob (dZ o.Target d.re 1 r) (.br ((a o.Target d.re 1 r).2.1 !=0) (.ret (v.re,(a o.Target d.re 1 r).2)) (.ob (v.re.Slots.length<=1048576) (.ret ((uN g v.re o (a o.Target d.re 1 r).1.re).re,0,(a o.Target d.re 1 r).2.2))))) (.br (!c.2) (rl (AVal.mk 10 0 [] [] [] [] [])) (rl c.1.re)))
def agp (m:Int->AVal->ae->AVal×Int×ae)(gm:Int->AVal->ae->Prop)(l:aY->AVal->Op->Int->ae->AVal×Int×ae)(iL:aY->AVal->Op->Int->ae->Prop)(q:Int->AVal->Int->ae->AVal×Int×ae)(dZ:Int->AVal->Int->ae->Prop)(p:aY->AVal->Op->ae->AVal×Int×ae)(gp:aY->AVal->Op->ae->Prop)(n:aY->AVal->Op->ae->AVal×Int×ae)(iQ:aY->AVal->Op->ae->Prop)(d:Op->Int->ae->AVal×Int×ae)(jf:Op->Int->ae->Prop)(g:aY)(v:AVal)(o:Op)(r:ae):Pg (AVal×Int×ae):=.ob (lm r.c) (.lt (iV r) fun e=> .br (e.2.1 !=0) (.ret (v.re,e.2)) (.lt (dQ v.re o.Num) fun c=> .cut (fun(j:Int)=> .lt (kX j (RJ e.1 e.2.2).2) fun h=> .br (h.1 !=0) (.ret (v.re,h)) (.wh ((r.c.End - r.c.At).toNat+1) default (fun(a:Bool×Bool×ae×Pair)=> .lt (ru a.2.2.1.c) fun k=> .br (decide (0 < k)) (.ob (lm a.2.2.1.c) (.lt (qQ a.2.2.1.c) fun b=> .cut (fun(s:Unit)=> .br (b.1==1) (.ob (jf (Op.mk 0 [] [] 0 0 o.Key (-1) 0) b.2.1 (ae.mk a.2.2.1.p b.2.2.1)) (.br ((d (Op.mk 0 [] [] 0 0 o.Key (-1) 0) b.2.1 (ae.mk a.2.2.1.p b.2.2.1)).2.1 != 0) (.ret (.inr (v.re, (d (Op.mk 0 [] [] 0 0 o.Key (-1) 0) b.2.1 (ae.mk a.2.2.1.p b.2.2.1)).2))) (rl (true,a.2.1, (d (Op.mk 0 [] [] 0 0 o.Key (-1) 0) b.2.1 (ae.mk a.2.2.1.p b.2.2.1)).2.2, Pair.mk (d (Op.mk 0 [] [] 0 0 o.Key (-1) 0) b.2.1 (ae.mk a.2.2.1.p b.2.2.1)).1.re a.2.2.2.Val.re)))) (.ob (jf o b.2.1 (ae.mk a.2.2.1.p b.2.2.1)) (.br ((d o b.2.1 (ae.mk a.2.2.1.p b.2.2.1)).2.1 !=0) (.ret (.inr (v.re,(d o b.2.1 (ae.mk a.2.2.1.p b.2.2.1)).2))) (rl (a.1,true,(d o b.2.1 (ae.mk a.2.2.1.p b.2.2.1)).2.2, Pair.mk a.2.2.2.Key.re (d o b.2.1 (ae.mk a.2.2.1.p b.2.2.1)).1.re))))) (.br (b.2.2.2 !=0) (.ret (.inr (.inr (v.re,b.2.2.2,a.2.2.1)))) (.br (b.1 !=1) (.br (b.1 !=2) (.ret (.inr (.inr (v.re,18,a.2.2.1)))) (.br (b.1==1) (.br a.1 (.ret (.inr (.inr (v.re,9,a.2.2.1)))) (.br (b.1==2) (.br a.2.1 (.ret (.inr (.inr (v.re,9,a.2.2.1)))) (rl ())) (rl ()))) (.br (b.1==2) (.br a.2.1 (.ret (.inr (.inr (v.re,9,a.2.2.1)))) (rl ())) (rl ())))) (.br (b.1==1) (.br a.1 (.ret (.inr (.inr (v.re,9,a.2.2.1)))) (.br (b.1==2) (.br a.2.1 (.ret (.inr (.inr (v.re,9,a.2.2.1)))) (rl ())) (rl ()))) (.br (b.1==2) (.br a.2.1 (.ret (.inr (.inr (v.re,9,a.2.2.1)))) (rl ())) (rl ()))))))) (aL c.1.Pairs (.ob (0<=(↑c.1.Pairs.length:Int)/\ (↑c.1.Pairs.length:Int)=(↑c.1.Pairs.length:Int)/\(↑c.1.Pairs.length:Int)<=(↑c.1.Pairs.length:Int)) (.lt (List.take c.1.Pairs.length c.1.Pairs) fun i=> .ob (0 < 1/\bM (i.length+1) 256) (.lt (i++[Pair.mk a.2.2.2.Key.re a.2.2.2.Val.re]) fun(f:List Pair)=> .ob (mf f) (.ob (v.re.Slots.length<=1048576) (.ret (.inr ((uN g v.re o (AVal.mk 12 0 [] [] (lX f) [] [])).re,0, aaV (RJ e.1 e.2.2).1 a.2.2.1))))))))) (false,false,h.2,Pair.mk (AVal.mk o.Key 0 [] [] [] [] []) (AVal.mk o.Kind 0 [] [] [] [] [])))) (.br (!c.2) (rl 3) (rl 2))))
def asa (f:Int->AVal->ae->AVal×Int×ae)(gm:Int->AVal->ae->Prop)(e:aY->AVal->Op->Int->ae->AVal×Int×ae)(iL:aY->AVal->Op->Int->ae->Prop)(c:Int->AVal->Int->ae->AVal×Int×ae)(dZ:Int->AVal->Int->ae->Prop)(g:aY->AVal->Op->ae->AVal×Int×ae)(gp:aY->AVal->Op->ae->Prop)(h:aY->AVal->Op->ae->AVal×Int×ae)(iQ:aY->AVal->Op->ae->Prop)(d:Op->Int->ae->AVal×Int×ae)(jf:Op->Int->ae->Prop)(o:Op)(w:Int)(r:ae):Pg (AVal×Int×ae):=.br (w !=Az o) (.ret (AVal.mk 0 0 [] [] [] [] [],13,r)) (.br (o.Kind==10) (.ob (dZ o.Target (AVal.mk 10 0 [] [] [] [] []) 0 r) (.ret ((c o.Target (AVal.mk 10 0 [] [] [] [] []) 0 r).1.re,(c o.Target (AVal.mk 10 0 [] [] [] [] []) 0 r).2))) (.ob (lm r.c) (.lt (fK w r) fun a=> .br (a.2.1 !=0) (.ret (AVal.mk 0 0 [] [] [] [] [],a.2)) (.ob (List.length a.1.Data<=1048576) (.lt (rZ a.2.2.p o a.1) fun b=> .ret (b.1.re,b.2,a.2.2))))))
def gm (a:Nat)(prog:Int)(v:AVal)(r:ae):Prop:=Fb v r/\(0<=prog/\prog < r.p.aO.length)/\5*r.c.Depth+5<=a
def iL (a:Nat)(g:aY)(v:AVal)(o:Op)(w:Int)(r:ae):Prop:=Fb v r/\TN r.p o/\5*r.c.Depth+4<=a
def dZ (b:Nat)(prog:Int)(a:AVal)(c:Int)(r:ae):Prop:=Fb a r/\(0<=prog/\prog < r.p.aO.length)/\5*r.c.Depth+1<=b
def gp (a:Nat)(g:aY)(v:AVal)(o:Op)(r:ae):Prop:=Fb v r/\(0<=o.Target/\o.Target < r.p.aO.length)/\5*r.c.Depth+2<=a
def iQ (a:Nat)(g:aY)(v:AVal)(o:Op)(r:ae):Prop:=Fb v r/\TN r.p o/\o.Card=5/\5*r.c.Depth+3<=a
def jf (a:Nat)(o:Op)(w:Int)(r:ae):Prop:=Fb (AVal.mk 10 0 [] [] [] [] []) r/\(o.Kind=10->0<=o.Target/\o.Target < r.p.aO.length)/\5*r.c.Depth+2<=a
def kJ:Nat->(Int->AVal->ae->(AVal×Int×ae))×(aY->AVal->Op->Int->ae->(AVal×Int×ae))×(Int->AVal->Int->ae->(AVal×Int×ae))×(aY->AVal->Op->ae->(AVal×Int×ae))×(aY->AVal->Op->ae->(AVal×Int×ae))×(Op->Int->ae->(AVal×Int×ae))
 | 0=>(fun _ _ _=>default,fun _ _ _ _ _=>default,fun _ _ _ _=>default,fun _ _ _ _=>default,fun _ _ _ _=>default,fun _ _ _=>default)
 | a+1=>(fun prog v r=>(XH ((kJ a).1) (gm a) ((kJ a).2.1) (iL a) ((kJ a).2.2.1) (dZ a) ((kJ a).2.2.2.1) (gp a) ((kJ a).2.2.2.2.1) (iQ a) ((kJ a).2.2.2.2.2) (jf a) prog v r).val,fun g v o w r=>(agN ((kJ a).1) (gm a) ((kJ a).2.1) (iL a) ((kJ a).2.2.1) (dZ a) ((kJ a).2.2.2.1) (gp a) ((kJ a).2.2.2.2.1) (iQ a) ((kJ a).2.2.2.2.2) (jf a) g v o w r).val,fun prog b c r=>(Z5 ((kJ a).1) (gm a) ((kJ a).2.1) (iL a) ((kJ a).2.2.1) (dZ a) ((kJ a).2.2.2.1) (gp a) ((kJ a).2.2.2.2.1) (iQ a) ((kJ a).2.2.2.2.2) (jf a) prog b c r).val,fun g v o r=>(Yv ((kJ a).1) (gm a) ((kJ a).2.1) (iL a) ((kJ a).2.2.1) (dZ a) ((kJ a).2.2.2.1) (gp a) ((kJ a).2.2.2.2.1) (iQ a) ((kJ a).2.2.2.2.2) (jf a) g v o r).val,fun g v o r=>(agp ((kJ a).1) (gm a) ((kJ a).2.1) (iL a) ((kJ a).2.2.1) (dZ a) ((kJ a).2.2.2.1) (gp a) ((kJ a).2.2.2.2.1) (iQ a) ((kJ a).2.2.2.2.2) (jf a) g v o r).val,fun o w r=>(asa ((kJ a).1) (gm a) ((kJ a).2.1) (iL a) ((kJ a).2.2.1) (dZ a) ((kJ a).2.2.2.1) (gp a) ((kJ a).2.2.2.2.1) (iQ a) ((kJ a).2.2.2.2.2) (jf a) o w r).val)
def PT (prog:Int)(v:AVal)(r:ae):AVal×Int×ae:=(kJ ((5*r.c.Depth+5).toNat)).1 prog v r
def Ez (a:Nat):Prop:=(∀(prog:Int) (v:AVal) (r:ae),gm a prog v r->(fun x=>Dv 0 0 v r x/\(x.2.1=0->x.2.2.c.At=x.2.2.c.End)) ((kJ a).1 prog v r))/\(∀(g:aY) (v:AVal) (o:Op) (w:Int) (r:ae),iL a g v o w r->(Dv 0 0 v r) ((kJ a).2.1 g v o w r))/\(∀(prog:Int) (b:AVal) (c:Int) (r:ae),dZ a prog b c r->(Dv 0 8 b r) ((kJ a).2.2.1 prog b c r))/\(∀(g:aY) (v:AVal) (o:Op) (r:ae),gp a g v o r->(Dv 0 0 v r) ((kJ a).2.2.2.1 g v o r))/\(∀(g:aY) (v:AVal) (o:Op) (r:ae),iQ a g v o r->(Dv 0 0 v r) ((kJ a).2.2.2.2.1 g v o r))/\(∀(o:Op) (w:Int) (r:ae),jf a o w r->(fun x=>x.2.1=0->x.2.2.p=r.p/\Ah 0 r.c x.2.2.c/\kV x.1/\(tV x.1:Int)<=8*(x.2.2.c.At - r.c.At)/\(¬o.Kind=10->fA x.1.Kind=true)) ((kJ a).2.2.2.2.2 o w r))
theorem Tq:tV (AVal.mk 10 0 [] [] [] [] [])=1:=(je 10 0 [] u0).2
theorem asx {c:aC}(h:lm c):Ah 0 c c:=⟨h,rfl,rfl,rfl,rfl,AA _,by omega⟩
theorem amn {k j s:Int}{v:AVal}{r:ae}{x:AVal×Int×ae}(h:Dv k s v r x)(a:j<=k):Dv j s v r x:=fun e=>⟨(h e).1,jl (h e).2.1 a,(h e).2.2⟩
theorem awG {v:AVal}{r:ae}(h:Fb v r):Fb (AVal.mk 10 0 [] [] [] [] []) r:=⟨h.1,h.2.1,(je 10 0 [] u0).1,by have:=h.2.2.2;have:=jH v;rw[Tq];omega⟩
theorem ami {c d:aC}{n:Int}(h:lm c)(p:0<=n)(m:n<=c.End - c.At)(e:d.End=c.At+n)(b:0<=d.Nodes)(a:d.Nodes<=c.Nodes):Ah n c (CQ c d)/\(CQ c d).At=c.At+n:=by
 have i:=h;obtain⟨⟨o,q,g,k⟩,j,l,f⟩:=h;rw[ap3 i ah ah b a];exact⟨⟨⟨⟨by show 0<=d.End;omega,by show d.End<=c.End;omega,g,k⟩,j,⟨b,by show d.Nodes<=1099511627776;omega⟩,f⟩,rfl,rfl,rfl,rfl,a,by show c.At+n<=d.End;omega⟩,e⟩
theorem aFJ (l:List Pair):tV (AVal.mk 12 0 [] [] l [] [])=1+tPs l:=by simp[tV,tVs,tSs,UK]
theorem alD {a:AVal}{x:Pair}(h:kV a)(d:mf (a.Pairs++[x]))(g:fA x.Key.Kind=true/\kV x.Key)(f:kV x.Val):kV (AVal.mk 12 0 [] [] (lX (a.Pairs++[x])) [] [])/\tV (AVal.mk 12 0 [] [] (lX (a.Pairs++[x])) [] [])<=tV a+1+tV x.Key+tV x.Val:=by
 have t1:=PR d;rw[ni]at t1;simp only[smL,Wq]at t1;have t2:=gQ a;have t3:=xu a.Pairs;constructor
 ·have c:=((gW a).1 h).2.2.1;rw[gW];refine⟨⟨u0,fun y b=>absurd b (YH)⟩,fun y b=>absurd b (YH),fun y b=> ?_,fun y b=>absurd b (YH)⟩;have b:y∈lX (a.Pairs++[x]):=b;rcases xN.1 (Eb d b)with e | e
  ·exact c y e
  ·rw[Be.1 e];exact⟨g,f⟩
 ·rw[aFJ,xu];omega
abbrev Cf (a:Nat):=XH ((kJ a).1) (gm a) ((kJ a).2.1) (iL a) ((kJ a).2.2.1) (dZ a) ((kJ a).2.2.2.1) (gp a) ((kJ a).2.2.2.2.1) (iQ a) ((kJ a).2.2.2.2.2) (jf a)
theorem Ld (f:Nat)(N:Ez f)(prog:Int)(v:AVal)(r:ae)(h:gm (f+1) prog v r):IsP (Cf f prog v r) (fun x=>Dv 0 0 v r x/\(x.2.1=0->x.2.2.c.At=x.2.2.c.End)):=
 by
 obtain⟨m,B,h3⟩:=h;have G:=m.2.1 _ (getD_mem (d:=bH) (l:=r.p.aO) (i:=prog.toNat) ah);unfold Cf XH;simp only[AVal.cZ];refine isP_ix B.1 B.2 (isP_wh (fun x=>x.1.p=r.p/\Ah 0 r.c x.1.c/\kV x.2/\(tV x.2:Int)+0<=tV v+8*(x.1.c.At - r.c.At)) (fun x=>(x.1.c.End - x.1.c.At).toNat) ⟨rfl,asx m.1,m.2.2.1,by dsimp only;omega⟩ (Qcv _) fun x R=> ?_);obtain⟨g,b,o,u⟩:=R;have t:Fb x.2 x.1:=av3 m (AA 0) g b o u;have Y:=b.2.2.2.1;refine isP_lt fun v6 E=>isP_brd (fun S=>isP_ob b.1 (isP_lt fun v7 A=>isP_bne (fun a=>isP_ret ⟨eQ a,fun e=>absurd e a⟩) fun D=> ?_)) (fun C=>isP_ret ⟨fun _=>⟨g,b,o,u⟩,fun _=>at_end b.1 (E▸C)⟩);rw[A]at D⊢;obtain⟨n,u2⟩:=yD b.1 D;have O:=alp b.1;have H:=amT b.1;have F:=ayu b.1;generalize qQ x.1.c=c at*;have uD:=n.2.2.2.1;have X:=n.2.2.1;have uA:=n.2.2.2.2.2.2;refine isP_cut (fun y=>y=(x.1,x.2)) (isP_as <| isP_each (fun _ y=>y=(x.1,x.2)) rfl (by have:=G.1;omega) (fun i y I j=> ?_) fun y j=>isP_ret j) fun y j=> ?_
 ·subst j;have P:=G.2 _ (getD_mem (d:=x9) I);have Q:Fb x.2 (ae.mk x.1.p c.2.2.1):=⟨n.1,by show bZ x.1.p;rw[g];exact m.2.1,o,by have:=t.2.2.2;show(tV x.2:Int)+8*(c.2.2.1.End - c.2.2.1.At)<=1048576;omega⟩;have z:iL f (r.p.aO.getD prog.toNat bH) x.2 ((r.p.aO.getD prog.toNat bH).Ops.getD i x9) c.2.1 (ae.mk x.1.p c.2.2.1):=⟨Q,by show TN x.1.p _;rw[g];exact P,by show 5*c.2.2.1.Depth+4<=(f:Int);omega⟩;have k:=N.2.1 _ _ _ _ _ z;refine isP_ix ah ah (isP_bne (fun _=>isP_ret rfl) fun _=>isP_ob z (isP_bne (fun a=>isP_ret ⟨eQ a,fun e=>absurd e a⟩) fun L=>isP_ret ?_));obtain⟨f1,f2,f3,f4⟩:=k L;dsimp only;generalize (kJ f).2.1 (r.p.aO.getD prog.toNat bH) x.2 ((r.p.aO.getD prog.toNat bH).Ops.getD i x9) c.2.1 (ae.mk x.1.p c.2.2.1)=w at*;have f7:c.2.2.1.At+0<=w.2.2.c.At:=f2.2.2.2.2.2.2;have U:w.2.2.c.End=c.2.2.1.End:=f2.2.2.1;have T:=f2.1.1.2.1;have f4:(tV w.1:Int)+0<=tV x.2+8*(w.2.2.c.At - c.2.2.1.At):=f4;have M:Ah 1 x.1.c w.2.2.c:=jl (iZ n f2) h_;exact⟨⟨f1.trans g,jl (iZ b M) h_,f3,by show(tV w.1:Int)+0<=tV v+8*(w.2.2.c.At - r.c.At);omega⟩,by show(w.2.2.c.End - w.2.2.c.At).toNat < (x.1.c.End - x.1.c.At).toNat;omega⟩
 ·subst j;refine isP_ob b.1 (isP_lt fun v8 K=>isP_bne (fun a=>isP_ret ⟨eQ a,fun e=>absurd e a⟩) fun q=>isP_ob (Gw t).1 (isP_ret ?_));rw[K]at q⊢;have p:=O q;have n2:=H q;have J:=F q;generalize sQ x.1.c=s at*;have V:=p.2.2.1;have W:=p.2.2.2.2.2.2;have Z:=p.1.1.2.1;exact⟨⟨g,jl (iZ b p) h_,aa_ o J,by show(tV (vN x.2 s.1):Int)+0<=tV v+8*(s.2.1.At - r.c.At);rw[ac1];omega⟩,by show(s.2.1.End - s.2.1.At).toNat < (x.1.c.End - x.1.c.At).toNat;omega⟩
abbrev Gz (a:Nat):=agN ((kJ a).1) (gm a) ((kJ a).2.1) (iL a) ((kJ a).2.2.1) (dZ a) ((kJ a).2.2.2.1) (gp a) ((kJ a).2.2.2.2.1) (iQ a) ((kJ a).2.2.2.2.2) (jf a)
theorem RI (c:Nat)(e:Ez c)(g:aY)(v:AVal)(o:Op)(w:Int)(r:ae)(h:iL (c+1) g v o w r):IsP (Gz c g v o w r) (Dv 0 0 v r):=
 by
 obtain⟨b,a,l⟩:=h;unfold Gz agN;simp only[AVal.cZ];refine isP_beq (fun d=>isP_bne (fun _=>isP_ret (eQ qck)) fun _=>isP_ob ⟨b,a,d,by omega⟩ (isP_ret (e.2.2.2.2.1 _ _ _ _ ⟨b,a,d,by omega⟩))) fun d=>isP_lt fun n j=>isP_lt fun p k=> ?_;refine isP_beq (fun _=>isP_br (fun _=>isP_ob ⟨b,a.2.2⟩ (isP_lt fun m f=>isP_ret (by rw[f];exact(VO g v o r ⟨b,a.2.2⟩).2))) (fun _=> ?_)) (fun _=> ?_);all_goals exact isP_bne (fun _=>isP_ret (eQ qck)) fun _=>isP_beq (fun i=>isP_ob ⟨b,a.1 i,by omega⟩ (isP_ret (e.2.2.2.1 _ _ _ _ ⟨b,a.1 i,by omega⟩))) fun _=>isP_ob ⟨b,a.2.2⟩ (isP_ret (by rw[j];exact amn (RP g v o r ⟨b,a.2.2⟩).2 h_))
abbrev BP (a:Nat):=Z5 ((kJ a).1) (gm a) ((kJ a).2.1) (iL a) ((kJ a).2.2.1) (dZ a) ((kJ a).2.2.2.1) (gp a) ((kJ a).2.2.2.2.1) (iQ a) ((kJ a).2.2.2.2.2) (jf a)
theorem LP (j:Nat)(G:Ez j)(prog:Int)(b:AVal)(f:Int)(r:ae)(h:dZ (j+1) prog b f r):IsP (BP j prog b f r) (Dv 0 8 b r):=
 by
 obtain⟨l,H,V⟩:=h;have m:=l.1;unfold BP Z5;simp only[AVal.cZ];refine isP_ob m (isP_lt fun X t=>isP_bne (fun e=>isP_ret (eQ e)) fun s=> ?_);rw[t]at s⊢;obtain⟨l1,l2,n,R,l5⟩:=su m s;generalize iV r=a at*;have T:=l1.2.2.2.2.2.2;have S:=l1.2.2.1;have P:=l1.2.2.2.1;refine isP_lt fun v2 q=>isP_bne (fun e=>isP_ret (eQ e)) fun w=> ?_;rw[q]at w⊢;obtain⟨C,B,A,O⟩:=aep l1.1 w;rw[C];refine isP_lt fun W v=>isP_bne (fun e=>isP_ret (eQ e)) fun u=> ?_;rw[v]at u⊢;have D:lm (aC.mk a.2.2.c.Data a.2.2.c.At (a.2.2.c.At+a.1) (a.2.2.c.Depth - 1) a.2.2.c.Nodes a.2.2.c.Text):=by
  obtain⟨⟨z,Z,N,J⟩,Q,K⟩:=l1.1;exact⟨⟨z,by show a.2.2.c.At<=a.2.2.c.At+a.1;omega,by show a.2.2.c.At+a.1<=a.2.2.c.Data.length;omega,J⟩,⟨by show 0<=a.2.2.c.Depth - 1;omega,by show a.2.2.c.Depth - 1<=1048576;omega⟩,K⟩
 obtain⟨k,i,I⟩:=tZ (r:=ae.mk a.2.2.p (aC.mk a.2.2.c.Data a.2.2.c.At (a.2.2.c.At+a.1) (a.2.2.c.Depth - 1) a.2.2.c.Nodes a.2.2.c.Text)) D u;dsimp only at k i I⊢;generalize kX f (ae.mk a.2.2.p (aC.mk a.2.2.c.Data a.2.2.c.At (a.2.2.c.At+a.1) (a.2.2.c.Depth - 1) a.2.2.c.Nodes a.2.2.c.Text))=g at*;have Y:g.2.c.End=a.2.2.c.At+a.1:=i.2.2.1;have sD:g.2.c.Depth=a.2.2.c.Depth - 1:=i.2.2.2.1;have L:g.2.c.Nodes<=a.2.2.c.Nodes:=i.2.2.2.2.2.1;have p:gm j prog b g.2:=⟨⟨i.1,by rw[k,n];exact l.2.1,l.2.2.1,by have:=l.2.2.2;omega⟩,by rw[k,n];exact H,by omega⟩;obtain⟨F,E⟩:=G.1 prog b g.2 p;refine isP_ob p (isP_bne (fun e=>isP_ret (eQ e)) fun x=>isP_ret fun _=> ?_);obtain⟨f1,f2,f3,f4⟩:=F x;have f5:=E x;dsimp only;generalize (kJ j).1 prog b g.2=o at*;have M:=f2.2.2.1;have fN:=f2.2.2.2.2.2.1;have f0:=f2.1.2.2.1.1;obtain⟨y,U⟩:=ami (c:=a.2.2.c) (d:=o.2.2.c) l1.1 B A ah f0 ah;refine⟨f1.trans (k.trans n),jl (iZ l1 y) ah,f3,?_⟩;show(tV o.1:Int)+8<=tV b+8*((CQ a.2.2.c o.2.2.c).At - r.c.At)
 omega
abbrev CO (a:Nat):=Yv ((kJ a).1) (gm a) ((kJ a).2.1) (iL a) ((kJ a).2.2.1) (dZ a) ((kJ a).2.2.2.1) (gp a) ((kJ a).2.2.2.2.1) (iQ a) ((kJ a).2.2.2.2.2) (jf a)
theorem KA (c:Nat)(u:Ez c)(g:aY)(v:AVal)(o:Op)(r:ae)(h:gp (c+1) g v o r):IsP (CO c g v o r) (Dv 0 0 v r):=
 by
 obtain⟨a,z,C⟩:=h;have f:=Gw a;have B:=PZ a o.Num;have q:=awG a;have t4:=OD (v:=v) (num:=o.Num);unfold CO Yv;simp only[AVal.cZ];refine isP_lt fun n d=>isP_beq (fun A=>isP_cut (fun _=>True) (isP_br (fun _=>isP_ret trivial) (fun _=>isP_ret trivial)) fun p _=> ?_) (fun A=>isP_cut (fun y=>(n.2=true/\y=n.1)\/(n.2=false/\y=AVal.mk 10 0 [] [] [] [] [])) (isP_br (fun e=>isP_ret (.inr ⟨by simpa using e,rfl⟩)) (fun e=>isP_ret (.inl ⟨by simpa using e,rfl⟩))) fun y s=> ?_)
 ·have i:dZ c o.Target (AVal.mk 10 0 [] [] [] [] []) p r:=⟨q,z,by omega⟩;have k:=u.2.2.1 _ _ _ _ i;refine isP_ob i (isP_bne (fun j=>isP_ret (eQ j)) fun m=> ?_);obtain⟨f1,f2,f3,f4⟩:=k m;generalize (kJ c).2.2.1 o.Target (AVal.mk 10 0 [] [] [] [] []) p r=w at*;rw[d];refine isP_ob B.1 (isP_ob f.2.1 (isP_ret fun _=>⟨f1,f2,EY f.2.1 a.2.2.1 (JZ (C9 a.2.2.1) f3),?_⟩));show(tV (uN g v o (oI (dQ v o.Num).1 w.1)):Int)+0<=tV v+8*(w.2.2.c.At - r.c.At)
  have t2:=EP (g:=g) (v:=v) (o:=o) (x:=oI (dQ v o.Num).1 w.1) f.2.1;have t3:=JM (l:=(dQ v o.Num).1) (x:=w.1);rw[Tq]at f4;cases b:(dQ v o.Num).2 with
  | true=>rw[b]at t2;simp only[xU]at t2;omega
  | false=>have:=t4.2 b;rw[b]at t2;simp only[og]at t2;omega
 ·have t:Fb y r:=by
   rcases s with⟨_,rfl⟩ | ⟨_,rfl⟩
   ·rw[d];exact⟨a.1,a.2.1,C9 a.2.2.1,by have:=a.2.2.2;omega⟩
   ·exact q
  have i:dZ c o.Target y 1 r:=⟨t,z,by omega⟩;have k:=u.2.2.1 _ _ _ _ i;refine isP_ob i (isP_bne (fun j=>isP_ret (eQ j)) fun m=> ?_);obtain⟨f1,f2,f3,f4⟩:=k m;generalize (kJ c).2.2.1 o.Target y 1 r=w at*;refine isP_ob f.2.1 (isP_ret fun _=>⟨f1,f2,EY f.2.1 a.2.2.1 f3,?_⟩);show(tV (uN g v o w.1):Int)+0<=tV v+8*(w.2.2.c.At - r.c.At)
  have t2:=EP (g:=g) (v:=v) (o:=o) (x:=w.1) f.2.1;rcases s with⟨b,rfl⟩ | ⟨b,rfl⟩
  ·rw[d]at b f4;rw[b]at t2;simp only[xU]at t2;omega
  ·rw[d]at b;rw[Tq]at f4;rw[b]at t2;simp only[og]at t2;omega
abbrev FY (a:Nat):=agp ((kJ a).1) (gm a) ((kJ a).2.1) (iL a) ((kJ a).2.2.1) (dZ a) ((kJ a).2.2.2.1) (gp a) ((kJ a).2.2.2.2.1) (iQ a) ((kJ a).2.2.2.2.2) (jf a)
theorem OZ (d:Nat)(R:Ez d)(g:aY)(v:AVal)(o:Op)(r:ae)(h:iQ (d+1) g v o r):IsP (FY d g v o r) (Dv 0 0 v r):=
 by
 obtain⟨l,A,N,h4⟩:=h;have H:=Gw l;have hf:=PZ l o.Num;have s:=l.1;have hb:=l.2.2.2;have t4:=OD (v:=v) (num:=o.Num);unfold FY agp;simp only[AVal.cZ];refine isP_ob s (isP_lt fun v4 U=>isP_bne (fun c=>isP_ret (eQ c)) fun Z=> ?_);rw[U]at Z⊢;obtain⟨l1,l2,l3,O,I⟩:=su s Z;generalize iV r=a at*;have l7:=l1.2.2.2.2.2.2;have le:=l1.2.2.1;have ld:=l1.2.2.2.1;have hc:=abE l1.1 O I;rw[acd l1.1 O I];refine isP_lt fun v5 W=>isP_cut (fun _=>True) (isP_br (fun _=>isP_ret trivial) (fun _=>isP_ret trivial)) fun y1 _=>isP_lt fun v6 V=>isP_bne (fun c=>isP_ret (eQ c)) fun m=> ?_;rw[V]at m⊢;obtain⟨S,L,X⟩:=tZ (r:=ae.mk a.2.2.p (sV a.2.2.c a.1)) hc m;dsimp only at S L X⊢;generalize kX y1 (ae.mk a.2.2.p (sV a.2.2.c a.1))=K at*;have G:(sV a.2.2.c a.1).At=a.2.2.c.At:=rfl;have B:(sV a.2.2.c a.1).End=a.2.2.c.At+a.1:=rfl;have eD:(sV a.2.2.c a.1).Depth=a.2.2.c.Depth:=rfl;rw[G]at X;have sE:=L.2.2.1;rw[B]at sE;have h0:=s.1.1;have k1:=(je o.Kind 0 [] u0).2;have k2:=(je o.Key 0 [] u0).2;simp only[uF]at k1 k2;refine isP_wh (fun x=>x.2.2.1.p=r.p/\Ah 0 (sV a.2.2.c a.1) x.2.2.1.c/\(fA x.2.2.2.Key.Kind=true/\kV x.2.2.2.Key)/\kV x.2.2.2.Val/\(tV x.2.2.2.Key:Int)+tV x.2.2.2.Val<=2+8*(x.2.2.1.c.At - a.2.2.c.At)) (fun x=>(x.2.2.1.c.End - x.2.2.1.c.At).toNat) ⟨S.trans l3,L,⟨A.2.1 N,(je o.Key 0 [] u0).1⟩,(je o.Kind 0 [] u0).1,by show(tV (AVal.mk o.Key 0 [] [] [] [] []):Int)+tV (AVal.mk o.Kind 0 [] [] [] [] [])<=2+8*(K.2.c.At - a.2.2.c.At);omega⟩ (by show(K.2.c.End - K.2.c.At).toNat < (r.c.End - r.c.At).toNat+1;omega) fun x hx=> ?_;obtain⟨z,f,J,P,x5⟩:=hx;have xE:=f.2.2.1;have xA:=f.2.2.2.2.2.2;have xD:=f.2.2.2.1;rw[B]at xE;rw[G]at xA;rw[eD]at xD;refine isP_lt fun v7 Q=>isP_brd (fun hlt=>isP_ob f.1 (isP_lt fun v8 Fe=>isP_cut (fun _=>v8.2.2.2=0) ?_ fun y3 E=> ?_)) (fun D=> ?_)
 ·refine isP_bne (fun c=>isP_ret (eQ c)) fun e0=> ?_;repeat' first
   | exact isP_ret e0
   | exact isP_ret (eQ (by show ¬(18:Int)=0;decide))
   | exact isP_ret (eQ (by show ¬(9:Int)=0;decide))
   | refine isP_bne (fun _=> ?_) (fun _=> ?_)
   | refine isP_beq (fun _=> ?_) (fun _=> ?_)
   | refine isP_br (fun _=> ?_) (fun _=> ?_)
 ·rw[Fe]at E⊢;obtain⟨q,u2⟩:=yD f.1 E;generalize qQ x.2.2.1.c=b at*;have uD:=q.2.2.2.1;have uE:=q.2.2.1;have uA:=q.2.2.2.2.2.2;have Y:Fb (AVal.mk 10 0 [] [] [] [] []) (ae.mk x.2.2.1.p b.2.2.1):=⟨q.1,by show bZ x.2.2.1.p;rw[z];exact l.2.1,(je 10 0 [] u0).1,by rw[Tq];show((1:Nat):Int)+8*(b.2.2.1.End - b.2.2.1.At)<=1048576;have:=jH v;omega⟩;have C:∀(w:AVal×Int×ae) (n t:AVal),w.2.2.p=x.2.2.1.p->Ah 0 b.2.2.1 w.2.2.c->(fA n.Kind=true/\kV n)->kV t->(tV n:Int)+tV t<=2+8*(w.2.2.c.At - a.2.2.c.At)->(fun x=>x.2.2.1.p=r.p/\Ah 0 (sV a.2.2.c a.1) x.2.2.1.c/\(fA x.2.2.2.Key.Kind=true/\kV x.2.2.2.Key)/\kV x.2.2.2.Val/\(tV x.2.2.2.Key:Int)+tV x.2.2.2.Val<=2+8*(x.2.2.1.c.At - a.2.2.c.At)) ((true,true,w.2.2,Pair.mk n t):Bool×Bool×ae×Pair)/\(w.2.2.c.End - w.2.2.c.At).toNat < (x.2.2.1.c.End - x.2.2.1.c.At).toNat:=fun w n t a1 a2 a3 a4 a5=>by
   have u:Ah 1 x.2.2.1.c w.2.2.c:=jl (iZ q a2) h_;have aE:=u.2.2.1;have aA:=u.2.2.2.2.2.2;have aL:=u.1.1.2.1;exact⟨⟨a1.trans z,jl (iZ f u) h_,a3,a4,a5⟩,by omega⟩
  refine isP_beq (fun hk=> ?_) (fun hk=> ?_)
  ·have p:jf d (Op.mk 0 [] [] 0 0 o.Key (-1) 0) b.2.1 (ae.mk x.2.2.1.p b.2.2.1):=⟨Y,fun j=>(by
    have i:o.Key=10:=j;have:=A.2.1 N;rw[i]at this;exact absurd this h_),by show 5*b.2.2.1.Depth+2<=(d:Int);omega⟩
   have k:=R.2.2.2.2.2 _ _ _ p;refine isP_ob p (isP_bne (fun c=>isP_ret (eQ c)) fun M=>isP_ret ?_);obtain⟨f1,f2,f3,f4,f5⟩:=k M;generalize (kJ d).2.2.2.2.2 (Op.mk 0 [] [] 0 0 o.Key (-1) 0) b.2.1 (ae.mk x.2.2.1.p b.2.2.1)=w at*;have f4:(tV w.1:Int)<=8*(w.2.2.c.At - b.2.2.1.At):=f4;have f7:b.2.2.1.At+0<=w.2.2.c.At:=f2.2.2.2.2.2.2;refine C w w.1 x.2.2.2.Val f1 f2 ⟨f5 fun i=> ?_,f3⟩ P (by have:=jH x.2.2.2.Key;omega);have i:o.Key=10:=i;have:=A.2.1 N;rw[i]at this;exact absurd this h_
  ·have p:jf d o b.2.1 (ae.mk x.2.2.1.p b.2.2.1):=⟨Y,fun j=>by show 0<=o.Target/\o.Target < x.2.2.1.p.aO.length;rw[z];exact A.1 j,by show 5*b.2.2.1.Depth+2<=(d:Int);omega⟩;have k:=R.2.2.2.2.2 _ _ _ p;refine isP_ob p (isP_bne (fun c=>isP_ret (eQ c)) fun M=>isP_ret ?_);obtain⟨f1,f2,f3,f4,f5⟩:=k M;generalize (kJ d).2.2.2.2.2 o b.2.1 (ae.mk x.2.2.1.p b.2.2.1)=w at*;have f4:(tV w.1:Int)<=8*(w.2.2.c.At - b.2.2.1.At):=f4;have f7:b.2.2.1.At+0<=w.2.2.c.At:=f2.2.2.2.2.2.2;exact C w x.2.2.2.Key w.1 f1 f2 J f3 (by have:=jH x.2.2.2.Val;omega)
 ·rw[Q]at D;have hend:=at_end f.1 D;have T:=Pm l1.1 O I f;have hpl:=FT (dQ v o.Num).1.Pairs;have ht:=gQ (dQ v o.Num).1;have F:mf ((dQ v o.Num).1.Pairs++[x.2.2.2]):=⟨by simp only[kG,uU,uF];omega,fun y hy=>(xN.1 hy).elim (hf.2.2 y) fun e=>by rw[Be.1 e];exact J.1⟩;obtain⟨q1,q2⟩:=alD (C9 l.2.2.1) F J P;have ep:Pair.mk x.2.2.2.Key x.2.2.2.Val=x.2.2.2:=Pair.eta _;rw[W,ep];refine isP_as <| isP_ob oG (isP_lt fun v9 Xi=> ?_)
  rw[Xi,yS];refine isP_ob ?_ (isP_lt fun v10 xJ=> ?_)
  ·first
    | exact⟨by decide,room_of ah ah⟩
    | exact⟨trivial,room_of ah ah⟩
    | exact room_of ah ah
  rw[xJ];refine isP_ob F (isP_ob H.2.1 (isP_ret fun _=>⟨z,jl (iZ l1 T) ah,EY H.2.1 l.2.2.1 q1,?_⟩));show(tV (uN g v o (AVal.mk 12 0 [] [] (lX ((dQ v o.Num).1.Pairs++[x.2.2.2])) [] [])):Int)+0<=tV v+8*(x.2.2.1.c.End - r.c.At)
  have t2:=EP (g:=g) (v:=v) (o:=o) (x:=AVal.mk 12 0 [] [] (lX ((dQ v o.Num).1.Pairs++[x.2.2.2])) [] []) H.2.1;cases m:(dQ v o.Num).2 with
  | true=>rw[m]at t2;simp only[xU]at t2;omega
  | false=>have:=t4.2 m;rw[m]at t2;simp only[og]at t2;omega
abbrev NV (a:Nat):=asa ((kJ a).1) (gm a) ((kJ a).2.1) (iL a) ((kJ a).2.2.1) (dZ a) ((kJ a).2.2.2.1) (gp a) ((kJ a).2.2.2.2.1) (iQ a) ((kJ a).2.2.2.2.2) (jf a)
theorem WS (a:Nat)(p:Ez a)(o:Op)(w:Int)(r:ae)(h:jf (a+1) o w r):IsP (NV a o w r) (fun x=>x.2.1=0->x.2.2.p=r.p/\Ah 0 r.c x.2.2.c/\kV x.1/\(tV x.1:Int)<=8*(x.2.2.c.At - r.c.At)/\(¬o.Kind=10->fA x.1.Kind=true)):=
 by
 obtain⟨b,q,z⟩:=h;unfold NV asa;simp only[AVal.cZ];refine isP_bne (fun _=>isP_ret (fun e=>absurd e qck)) fun _=>isP_beq (fun c=> ?_) (fun c=>isP_ob b.1 (isP_lt fun A i=>isP_bne (fun j=>isP_ret (fun e=>absurd e j)) fun g=> ?_))
 ·have d:dZ a o.Target (AVal.mk 10 0 [] [] [] [] []) 0 r:=⟨b,q c,by omega⟩;refine isP_ob d (isP_ret fun e=> ?_);obtain⟨f1,f2,f3,f4⟩:=p.2.2.1 _ _ _ _ d e;rw[Tq]at f4;exact⟨f1,f2,f3,by dsimp only;omega,fun s=>absurd c s⟩
 ·rw[i]at g⊢;obtain⟨n,m,y,l,_⟩:=Dz b.1 g;have v:=KP (wire:=w) b.1;generalize fK w r=C at*;refine isP_ob l (isP_lt fun D f=>isP_ret fun e=> ?_);rw[f]at e⊢;obtain⟨B,t,k,u⟩:=QY v e;exact⟨m,jl n h_,t,by dsimp only;omega,fun _=>by dsimp only;rw[k];exact u⟩
theorem nS:∀a,Ez a
 | 0=>⟨fun prog v r h=>False.elim qbt,
  fun g v o w r h=>False.elim qbt,
  fun prog b c r h=>False.elim qbt,
  fun g v o r h=>False.elim qbt,
  fun g v o r h=>False.elim (by have k:=h.1.1.2.1.1;have e:=h.2.2.2;omega),
  fun o w r h=>False.elim qbt⟩
 | a+1=>⟨fun prog v r h=>(Ld a (nS a) prog v r h).2,
  fun g v o w r h=>(RI a (nS a) g v o w r h).2,
  fun prog b c r h=>(LP a (nS a) prog b c r h).2,
  fun g v o r h=>(KA a (nS a) g v o r h).2,
  fun g v o r h=>(OZ a (nS a) g v o r h).2,
  fun o w r h=>(WS a (nS a) o w r h).2⟩
theorem agR (a:Nat)(prog:Int)(v:AVal)(r:ae)(h:gm (a+1) prog v r):Is (Cf a prog v r):=(Ld a (nS a) prog v r h).1
theorem alC (a:Nat)(g:aY)(v:AVal)(o:Op)(w:Int)(r:ae)(h:iL (a+1) g v o w r):Is (Gz a g v o w r):=(RI a (nS a) g v o w r h).1
theorem afR (c:Nat)(prog:Int)(a:AVal)(b:Int)(r:ae)(h:dZ (c+1) prog a b r):Is (BP c prog a b r):=(LP c (nS c) prog a b r h).1
theorem ae6 (a:Nat)(g:aY)(v:AVal)(o:Op)(r:ae)(h:gp (a+1) g v o r):Is (CO a g v o r):=(KA a (nS a) g v o r h).1
theorem akV (a:Nat)(g:aY)(v:AVal)(o:Op)(r:ae)(h:iQ (a+1) g v o r):Is (FY a g v o r):=(OZ a (nS a) g v o r h).1
theorem asU (a:Nat)(o:Op)(w:Int)(r:ae)(h:jf (a+1) o w r):Is (NV a o w r):=(WS a (nS a) o w r h).1
theorem Uz (prog:Int)(v:AVal)(r:ae)(h:Fb v r/\(0<=prog/\prog < r.p.aO.length)):(fun x=>Dv 0 0 v r x/\(x.2.1=0->x.2.2.c.At=x.2.2.c.End)) (PT prog v r):=(nS ((5*r.c.Depth+5).toNat)).1 prog v r (⟨h.1,h.2,by have k:=h.1.1.2.1.1;omega⟩)
theorem azT:∀b,CtOk Z.P Z.S 171 (ctN (iM (aCons (fG 0) (aCons (aLf cI) (a1 (aAgg ay)))) (b1 (aF aK))) (shr [.slot 0 true (nn 7), s0 1, .cells 0 (nn 8)] (lCons ay (lCons cI (l1 aK)))) 2 [] (fun a=>some (gm b (a.1.2.1) (a.1.2.2) (a.2))) (fun a=>(kJ b).1 (a.1.2.1) (a.1.2.2) (a.2)))/\CtOk Z.P Z.S 232 (ctN (iM (aCons (fG 0) (aCons (aAgg fJ) (aCons (aAgg ay) (aCons (aAgg gU) (a1 (aLf cI)))))) (b1 (aF aK))) (shr [.slot 0 true (nn 7), s0 1, .cells 0 (nn 8)] (lCons ay (lCons cI (l1 aK)))) 2 [] (fun a=>some (iL b (a.1.2.1) (a.1.2.2.1) (a.1.2.2.2.1) (a.1.2.2.2.2) (a.2))) (fun a=>(kJ b).2.1 (a.1.2.1) (a.1.2.2.1) (a.1.2.2.2.1) (a.1.2.2.2.2) (a.2)))/\CtOk Z.P Z.S 415 (ctN (iM (aCons (fG 0) (aCons (aLf cI) (aCons (aAgg ay) (a1 (aLf cI))))) (b1 (aF aK))) (shr [.slot 0 true (nn 7), s0 1, .cells 0 (nn 8)] (lCons ay (lCons cI (l1 aK)))) 2 [] (fun a=>some (dZ b (a.1.2.1) (a.1.2.2.1) (a.1.2.2.2) (a.2))) (fun a=>(kJ b).2.2.1 (a.1.2.1) (a.1.2.2.1) (a.1.2.2.2) (a.2)))/\CtOk Z.P Z.S 311 (ctN (iM (aCons (fG 0) (aCons (aAgg fJ) (aCons (aAgg ay) (a1 (aAgg gU))))) (b1 (aF aK))) (shr [.slot 0 true (nn 7), s0 1, .cells 0 (nn 8)] (lCons ay (lCons cI (l1 aK)))) 2 [] (fun a=>some (gp b (a.1.2.1) (a.1.2.2.1) (a.1.2.2.2) (a.2))) (fun a=>(kJ b).2.2.2.1 (a.1.2.1) (a.1.2.2.1) (a.1.2.2.2) (a.2)))/\CtOk Z.P Z.S 307 (ctN (iM (aCons (fG 0) (aCons (aAgg fJ) (aCons (aAgg ay) (a1 (aAgg gU))))) (b1 (aF aK))) (shr [.slot 0 true (nn 7), s0 1, .cells 0 (nn 8)] (lCons ay (lCons cI (l1 aK)))) 2 [] (fun a=>some (iQ b (a.1.2.1) (a.1.2.2.1) (a.1.2.2.2) (a.2))) (fun a=>(kJ b).2.2.2.2.1 (a.1.2.1) (a.1.2.2.1) (a.1.2.2.2) (a.2)))/\CtOk Z.P Z.S 410 (ctN (iM (aCons (fG 0) (aCons (aAgg gU) (a1 (aLf cI)))) (b1 (aF aK))) (shr [.slot 0 true (nn 7), s0 1, .cells 0 (nn 8)] (lCons ay (lCons cI (l1 aK)))) 2 [] (fun a=>some (jf b (a.1.2.1) (a.1.2.2) (a.2))) (fun a=>(kJ b).2.2.2.2.2 (a.1.2.1) (a.1.2.2) (a.2)))
 | 0=>⟨dH func171 dE (fun a h=>by have k:=h.1.1.2.1.1;have e:=h.2.2;omega),
  dH func232 dE (fun a h=>by have k:=h.1.1.2.1.1;have e:=h.2.2;omega),
  dH func415 dE (fun a h=>by have k:=h.1.1.2.1.1;have e:=h.2.2;omega),
  dH func311 dE (fun a h=>by have k:=h.1.1.2.1.1;have e:=h.2.2;omega),
  dH func307 dE (fun a h=>by have k:=h.1.1.2.1.1;have e:=h.2.2.2;omega),
  dH func410 dE (fun a h=>by have k:=h.1.1.2.1.1;have e:=h.2.2;omega)⟩
 | b+1=>by
  obtain⟨j,g,d,i,l,f⟩:=azT b;exact⟨xM [wQ,aeg,av9,adu,⟨171,_,j⟩,⟨232,_,g⟩,⟨415,_,d⟩,⟨311,_,i⟩,⟨307,_,l⟩,⟨410,_,f⟩] [jS 2 (aT (fun c=>[.cells (pid (c 0)) (nn 8), .cells (pid (c 5)) (nn 7)]) (lCons aK (l1 ay))),jS 8 (aT (fun c=>[s0 49, .cells (pid (c 0)) (nn 8), .cells (pid (c 5)) (nn 7)]) (lCons cI (lCons aK (l1 ay)))),jS 100016 (aT (fun c=>[.cells (pid (c 0)) (nn 8), .cells (pid (c 5)) (nn 7)]) (lCons aK (l1 ay)))] func171 ntmps171 (fun a=>Cf b a.1.2.1 a.1.2.2 a.2) (fun a h=>⟨agR b a.1.2.1 a.1.2.2 a.2 h,rfl⟩) (l_ (n:=93) rfl),
   xM [uj,ayj,Ie,anU,⟨171,_,j⟩,⟨232,_,g⟩,⟨415,_,d⟩,⟨311,_,i⟩,⟨307,_,l⟩,⟨410,_,f⟩] [] func232 ntmps232 (fun a=>Gz b a.1.2.1 a.1.2.2.1 a.1.2.2.2.1 a.1.2.2.2.2 a.2) (fun a h=>⟨alC b a.1.2.1 a.1.2.2.1 a.1.2.2.2.1 a.1.2.2.2.2 a.2 h,rfl⟩) (l_ (n:=64) rfl),
   xM [Bf,Cm,as5,arI,⟨171,_,j⟩,⟨232,_,g⟩,⟨415,_,d⟩,⟨311,_,i⟩,⟨307,_,l⟩,⟨410,_,f⟩] [] func415 ntmps415 (fun a=>BP b a.1.2.1 a.1.2.2.1 a.1.2.2.2 a.2) (fun a h=>⟨afR b a.1.2.1 a.1.2.2.1 a.1.2.2.2 a.2 h,rfl⟩) (l_ (n:=68) rfl),
   xM [GK,Xl,VD,⟨171,_,j⟩,⟨232,_,g⟩,⟨415,_,d⟩,⟨311,_,i⟩,⟨307,_,l⟩,⟨410,_,f⟩] [jS 100007 (aT (fun c=>[s0 13]) (l1 cI)),jS 100013 (aT (fun c=>[.cells (pid (c 10)) (nn 7)]) (l1 ay))] func311 ntmps311 (fun a=>CO b a.1.2.1 a.1.2.2.1 a.1.2.2.2 a.2) (fun a h=>⟨ae6 b a.1.2.1 a.1.2.2.1 a.1.2.2.2 a.2 h,rfl⟩) (l_ (n:=71) rfl),
   xM [Bf,GK,wQ,aeg,Tm,Cm,akm,UZ,Xl,⟨171,_,j⟩,⟨232,_,g⟩,⟨415,_,d⟩,⟨311,_,i⟩,⟨307,_,l⟩,⟨410,_,f⟩] [jS 14 (aT (fun c=>[s0 18, s0 19, .cells (pid (c 0)) (nn 8), .cells (pid (c 17)) (nn 14)]) (lCons aj (lCons aj (lCons aK (l1 oV))))),jS 100009 (aT (fun c=>[s0 15]) (l1 cI)),jS 100022 (aT (fun c=>[]) l0)] func307 ntmps307 (fun a=>FY b a.1.2.1 a.1.2.2.1 a.1.2.2.2 a.2) (fun a h=>⟨akV b a.1.2.1 a.1.2.2.1 a.1.2.2.2 a.2 h,rfl⟩) (l_ (n:=153) rfl),
   xM [Ie,MB,U4,⟨171,_,j⟩,⟨232,_,g⟩,⟨415,_,d⟩,⟨311,_,i⟩,⟨307,_,l⟩,⟨410,_,f⟩] [] func410 ntmps410 (fun a=>NV b a.1.2.1 a.1.2.2 a.2) (fun a h=>⟨asU b a.1.2.1 a.1.2.2 a.2 h,rfl⟩) (l_ (n:=44) rfl)⟩
def ak4:Ent Z:=⟨171,ctN (iM (aCons (fG 0) (aCons (aLf cI) (a1 (aAgg ay)))) (b1 (aF aK))) (shr [.slot 0 true (nn 7), s0 1, .cells 0 (nn 8)] (lCons ay (lCons cI (l1 aK)))) 2 [] (fun a=>some (Fb (a.1.2.2) (a.2)/\(0<=(a.1.2.1)/\(a.1.2.1) < (a.2).p.aO.length))) (fun a=>PT (a.1.2.1) (a.1.2.2) (a.2)),ctFam_ok (fun n=>((azT n).1)) _ _ (fun a h=>⟨(5*(a.2).c.Depth+5).toNat,⟨h.1,h.2,by have k:=h.1.1.2.1.1;omega⟩,rfl⟩)⟩
def as6 (a:Str)(l:oz):Pg (aC×Int):=.br (decide (l.Bytes < 0)) (.ret (aC.mk [] 0 0 0 0 0,1)) (.br (decide (l.Depth < 0)) (.ret (aC.mk [] 0 0 0 0 0,1)) (.br (decide (l.Nodes < 0)) (.ret (aC.mk [] 0 0 0 0 0,1)) (.br (decide (l.Text < 0)) (.ret (aC.mk [] 0 0 0 0 0,1)) (.as (List.length a<=9223372036854775807) (.br (decide (l.Bytes < (↑(List.length a):Int))) (.ret (aC.mk [] 0 0 0 0 0,3)) (.as (List.length a<=9223372036854775807) (.ret (aC.mk a 0 (↑(List.length a):Int) l.Depth l.Nodes l.Text,0))))))))
def D8 (a:Str)(l:oz):=(as6 a l).val
def awS:Ent Z:=E0 [] [] (aCons (aLf cStr) (a1 (aAgg yf))) (shr [.slot 0 true (nn 6), s0 1] (lCons di (l1 cI))) [] func169 2 (u2 as6)
def apo:Pg oz:=.ret (oz.mk 65536 16 4096 4096)
def jy:oz:=(apo).val
def yw:Ent Z:=E0 [] [] a0 (shr [.slot 0 true (nn 4)] (l1 yf)) [] func46 1 fun a=>apo
def okL (l:oz):Prop:=l.Bytes<=65536/\l.Depth<=1048576/\l.Nodes<=1099511627776/\l.Text<=1099511627776
theorem Ik:okL jy:=by
 show okL (oz.mk 65536 16 4096 4096)
 exact⟨by decide,by decide,by decide,by decide⟩
theorem apW {a:Str}{l:oz}(h:okL l)(b:(D8 a l).2=0):lm (D8 a l).1/\(D8 a l).1.At=0/\(D8 a l).1.End=a.length/\a.length<=65536:=by
 obtain⟨l1,j,i,k⟩:=h;unfold D8 as6 at b⊢;simp only[val_as,a_,val_ret]at b⊢;by_cases e:l.Bytes < 0
 ·rw[pY e]at b;cases b
 rw[nU e]at b⊢;by_cases c:l.Depth < 0
 ·rw[pY c]at b;cases b
 rw[nU c]at b⊢;by_cases f:l.Nodes < 0
 ·rw[pY f]at b;cases b
 rw[nU f]at b⊢;by_cases g:l.Text < 0
 ·rw[pY g]at b;cases b
 rw[nU g]at b⊢;by_cases d:l.Bytes < (a.length:Int)
 ·rw[pY d]at b;cases b
 rw[nU d];exact⟨⟨⟨by show(0:Int)<=0;omega,by show(0:Int)<=a.length;omega,by show(a.length:Int)<=a.length;omega,by show a.length<=1048576;omega⟩,⟨by show 0<=l.Depth;omega,j⟩,⟨by show 0<=l.Nodes;omega,i⟩,by show 0<=l.Text;omega,k⟩,rfl,rfl,by omega⟩
theorem Ry {p:bJ}{name:Str}(h:(xx p name).2=true):0<=(xx p name).1/\(xx p name).1 < p.aO.length:=by
 have a:=(lI (fun(x:aY)=>ZM x name) p.aO).1;unfold xx atX at h⊢;simp only[val_lt,val_ret]at h⊢;have h:=xe h;omega
def ajG (p:bJ)(g:Str)(b:AVal)(f:Str)(l:oz):Pg (AVal×Int):=.lt (xx p g) fun d=> .br (!d.2) (.ret (AVal.mk 0 0 [] [] [] [] [],10)) (.br (b.Kind !=10) (.ret (AVal.mk 0 0 [] [] [] [] [],12)) (.lt (D8 f l) fun a=> .br (a.2 !=0) (.ret (AVal.mk 0 0 [] [] [] [] [],a.2)) (.br (decide (a.1.Depth < 1)) (.ret (AVal.mk 0 0 [] [] [] [] [],17)) (.lt (kX 1 (ae.mk p (aC.mk a.1.Data a.1.At a.1.End (wrp .i64 (a.1.Depth - 1)) a.1.Nodes a.1.Text))) fun c=> .br (c.1 !=0) (.ret (AVal.mk 0 0 [] [] [] [] [],c.1)) (.ob (Fb b.re c.2/\0<=d.1/\d.1 < (↑c.2.p.aO.length:Int)) (.lt (PT d.1 b.re c.2) fun e=> .br (e.2.1 !=0) (.ret (AVal.mk 0 0 [] [] [] [] [],e.2.1)) (.ob (gV e.1.re) (.ret ((Tc p d.1 e.1.re).re,0)))))))))
def aEB (p:bJ)(b:Str)(c:AVal)(a:Str)(l:oz):=(ajG p b c a l).val
theorem V7 (p:bJ)(name:Str)(a:AVal)(c:Str)(l:oz)(h:bZ p/\okL l/\kV a/\tV a<=1024):IsP (ajG p name a c l) (fun x=>x.2=0->kV x.1/\tV x.1<=tV a+8*c.length/\(xx p name).2=true/\c.length<=65536):=
 by
 obtain⟨M,F,v,S⟩:=h;unfold ajG;simp only[AVal.cZ];have i:∀{e:Int} (w:¬e=0),(fun x:AVal×Int=>x.2=0->kV x.1/\tV x.1<=tV a+8*c.length/\(xx p name).2=true/\c.length<=65536) (AVal.mk 0 0 [] [] [] [] [],e):=fun w R=>absurd R w
 refine isP_lt fun g m=>isP_br (fun _=>isP_ret (i h_)) fun Q=>isP_bne (fun _=>isP_ret (i h_)) fun Y=>isP_lt fun v2 j=>isP_bne (fun d=>isP_ret (i d)) fun B=>isP_brd (fun _=>isP_ret (i h_)) fun I=>isP_lt fun f o=>isP_bne (fun d=>isP_ret (i d)) fun C=> ?_;have A:g.2=true:=by simpa using Q
 have D:=Ry (p:=p) (name:=name) (by rw[<-m];exact A);rw[<-m]at D;rw[j]at B I;obtain⟨J,X,W,H⟩:=apW F B;rw[o,j]at C;rw[j]at o;generalize D8 c l=b at*;have K:lm (aC.mk b.1.Data b.1.At b.1.End (wrp .i64 (b.1.Depth - 1)) b.1.Nodes b.1.Text):=by
  obtain⟨G,⟨Z,V⟩,P⟩:=J;rw[wrp_in (k:= .i64) oC];exact⟨G,⟨by show 0<=b.1.Depth - 1;omega,by show b.1.Depth - 1<=1048576;omega⟩,P⟩
 obtain⟨n,q,s⟩:=tZ (r:=ae.mk p (aC.mk b.1.Data b.1.At b.1.End (wrp .i64 (b.1.Depth - 1)) b.1.Nodes b.1.Text)) K C;rw[<-o]at n q s;have sE:f.2.c.End=b.1.End:=q.2.2.1;have s:f.2.c.At=b.1.At:=s;have n:f.2.p=p:=n;have u:Fb a f.2/\0<=g.1/\g.1 < (f.2.p.aO.length:Int):=⟨⟨q.1,by rw[n];exact M,v,by omega⟩,by rw[n];exact D⟩;refine isP_ob u (isP_lt fun t z=>isP_bne (fun d=>isP_ret (i d)) fun O=> ?_);obtain⟨y,L⟩:=Uz g.1 a f.2 u;rw[<-z]at y L;obtain⟨f1,f2,f3,f4⟩:=y O;have U:=f2.2.2.1;have T:=f2.1.1.2.1;have E:gV t.1:=⟨f3,by omega⟩;obtain⟨N,n2⟩:=Kq p g.1 t.1 E;exact isP_ob E (isP_ret fun _=>⟨N,by show tV (Tc p g.1 t.1)<=tV a+8*c.length;omega,by rw[<-m];exact A,H⟩)
def ayA:Ent Z:=E1 [YF,awS,Bf,ak4,aiW] [] (aCons (aAgg b_) (aCons (aLf cStr) (aCons (aAgg ay) (aCons (aLf cStr) (a1 (aAgg yf)))))) (shr [.slot 0 true (nn 7), s0 1] (lCons ay (l1 cI))) [] func98 2 (fun a=>ajG a.1 a.2.1 a.2.2.1 a.2.2.2.1 a.2.2.2.2) (fun a=>bZ a.1/\okL a.2.2.2.2/\kV a.2.2.1/\tV a.2.2.1<=1024) fun a h=>(V7 a.1 a.2.1 a.2.2.1 a.2.2.2.1 a.2.2.2.2 h).1
def JI (f:bJ->Int->AVal->Bool)(qV:bJ->Int->AVal->Prop)(p:bJ)(prog:Int)(v:AVal):Pg Bool:=.ix prog p.aO.length (.as ((p.aO.getD prog.toNat bH).Ops.length<=9223372036854775807) (.each false m_ (p.aO.getD prog.toNat bH).Ops x9 (fun e b (j:Unit)=> .ix e (p.aO.getD prog.toNat bH).Ops.length (.lt (dQ v.re b.Num) fun d=> .br (!d.2) (.br (b.Card==1) (.ret (.inr false)) (rl ())) (.br (b.Kind !=10) (rl ()) (.ob ((match d.1 with | AVal.mk i m l q a o n=>a).length<= 1048576) (.lt (ayU d.1.re) fun c=> aL c (.each false m_ c dK (fun g h (k:Unit)=> .ix g c.length (.ob (qV p b.Target h.re) (.br (!f p b.Target h.re) (.ret (.inr (.inr false))) (rl ())))) (fun g (k:Unit)=> rl ()) ())))))) (fun e (j:Unit)=> .ret true) ()))
def qV (a:Nat)(p:bJ)(prog:Int)(v:AVal):Prop:=bZ p/\(0<=prog/\prog < p.aO.length)/\gV v/\tV v<=a
def tcV:Nat->(bJ->Int->AVal->Bool)
 | 0=>(fun _ _ _=>default)
 | a+1=>(fun p prog v=>(JI ((tcV a)) (qV a) p prog v).val)
def TI (p:bJ)(prog:Int)(v:AVal):Bool:=(tcV (tV v)) p prog v
abbrev Bo (a:Nat):=JI ((tcV a)) (qV a)
theorem YZ (t:Nat)(p:bJ)(prog:Int)(v:AVal)(h:qV (t+1) p prog v):Is (Bo t p prog v):=
 by
 obtain⟨w,N,E,M⟩:=h;have J:=w _ (getD_mem (d:=bH) (l:=p.aO) (i:=prog.toNat) ah);have K:(dQ v 0).1.Pairs.length=(dQ v 0).1.Pairs.length:=rfl;unfold Bo JI;simp only[AVal.cZ];refine aW ah ah (bW fun _=>dh (.inr ah) (fun y z n _=>aW ah ah (bg fun b e=>is_br (fun _=>bu iR iR) (fun C=>dm iR (fun I=> ?_)))) (fun z _=>is_ret));have x:b.2=true:=by simpa using C
 have F:=J.2 _ (getD_mem (d:=x9) n);have c:gV b.1/\tV b.1 < tV v:=by
  rcases Ho v ((p.aO.getD prog.toNat bH).Ops.getD y x9).Num with⟨g,s,H,L,u⟩ | ⟨g,_⟩
  ·rw[<-e]at u;rw[<-u];exact OC E H
  ·rw[<-e]at g;rw[g]at x;cases x
 have j:=(oh c.1).2.2.2.1;refine az j (bg fun o m=>bW fun _=>dh (.inr ah) (fun k G r _=>aW ah ah (az ?_ (is_br iR iR))) (fun G _=>is_ret));have a:=(TL b.1 j).2 _ (by have:=getD_mem (d:=dK) r;rw[m]at this;exact this);have B:gV (o.getD k dK)/\tV (o.getD k dK) < tV v:=by
  rw[m];rcases a with a | ⟨q,A,a⟩ | a
  ·obtain⟨f,D⟩:=Iw c.1 a;exact⟨f,by omega⟩
  ·obtain⟨f,D,_⟩:=FN c.1 A;rw[a];exact⟨f,by omega⟩
  ·rw[a];exact c
 exact⟨w,F.1 I,B.1,by omega⟩
theorem aAT:∀b,CtOk Z.P Z.S 100 (ctN (args (aCons (aAgg b_) (aCons (aLf cI) (a1 (aAgg ay))))) (R1 aj) 1 [] (fun a=>some (qV b (a.1) (a.2.1) (a.2.2))) (fun a=>(tcV b) (a.1) (a.2.1) (a.2.2)))
 | 0=>dH func100 dE (fun a h=>by have k:=h.2.2.2;have:=jH (a.2.2);omega)
 | b+1=>by
  have c:=aAT b;exact xM [GK,auh,⟨100,_,c⟩] [jS 2 (aT (fun d=>[s0 20]) (l1 cI)),jS 10 (aT (fun d=>[s0 42]) (l1 cI))] func100 ntmps100 (fun a=>Bo b a.1 a.2.1 a.2.2) (fun a h=>⟨YZ b a.1 a.2.1 a.2.2 h,rfl⟩) (iE (n:=54) rfl)
def abx:Ent Z:=⟨100,ctN (args (aCons (aAgg b_) (aCons (aLf cI) (a1 (aAgg ay))))) (R1 aj) 1 [] (fun a=>some (bZ (a.1)/\(0<=(a.2.1)/\(a.2.1) < (a.1).aO.length)/\gV (a.2.2))) (fun a=>TI (a.1) (a.2.1) (a.2.2)),ctFam_ok (fun n=>((aAT n))) _ _ (fun a h=>⟨tV (a.2.2),⟨h.1,h.2.1,h.2.2,lH _⟩,rfl⟩)⟩
def NI (p:bJ)(a:Str)(c:Str)(l:oz):Pg (AVal×Int):=.ob (bZ p/\okL l/\kV (AVal.mk 10 0 [] [] [] [] [])/\tV (AVal.mk 10 0 [] [] [] [] [])<=1024) (.lt (aEB p a (AVal.mk 10 0 [] [] [] [] []) c l) fun b=> .br (b.2 !=0) (.ret (AVal.mk 0 0 [] [] [] [] [],b.2)) (.lt (xx p a) fun d=> .ob (bZ p/\(0<=d.1/\d.1 < (↑p.aO.length:Int))/\gV b.1.re) (.br (!TI p d.1 b.1.re) (.ret (AVal.mk 0 0 [] [] [] [] [],14)) (.ret (b.1.re,0)))))
def kU (p:bJ)(a:Str)(b:Str)(l:oz):=(NI p a b l).val
theorem L8 (p:bJ)(b:Str)(a:Str)(l:oz)(h:bZ p/\okL l):IsP (NI p b a l) (fun x=>x.2=0->kV x.1/\tV x.1<=1+8*a.length):=
 by
 obtain⟨f,q⟩:=h;have o:bZ p/\okL l/\kV (AVal.mk 10 0 [] [] [] [] [])/\tV (AVal.mk 10 0 [] [] [] [] [])<=1024:=⟨f,q,(je 10 0 [] u0).1,by rw[Tq];decide⟩;unfold NI;simp only[AVal.cZ];refine isP_ob o (isP_lt fun c g=>isP_bne (fun j=>isP_ret fun e=>absurd e j) fun s=>isP_lt fun u d=> ?_);have k:=(V7 p b (AVal.mk 10 0 [] [] [] [] []) a l o).2;have k:c.2=0->kV c.1/\tV c.1<=tV (AVal.mk 10 0 [] [] [] [] [])+8*a.length/\(xx p b).2=true/\a.length<=65536:=by rw[g];exact k
 obtain⟨m,n,r,t⟩:=k s;have i:=Ry r;rw[<-d]at i;rw[Tq]at n;refine isP_ob ⟨f,i,m,by omega⟩ (isP_br (fun _=>isP_ret fun e=>absurd e h_) fun _=>isP_ret fun _=>⟨m,n⟩)
def uf:Ent Z:=E1 [ayA,YF,abx] [] (aCons (aAgg b_) (aCons (aLf cStr) (aCons (aLf cStr) (a1 (aAgg yf))))) (shr [.slot 0 true (nn 7), s0 1] (lCons ay (l1 cI))) [] func45 2 (u4 NI) (fun a=>bZ a.1/\okL a.2.2.2) fun a h=>(L8 a.1 a.2.1 a.2.2.1 a.2.2.2 h).1
def VP {R:Type}(t:Pg R)(Q:R->Prop):Prop:=Q t.val
section
variable {R A X Y:Type}{Q:R->Prop}
theorem vp_ret {r:R}(h:Q r):VP (.ret r) Q:=h
theorem vp_ob {p:Prop}{k:Pg R}(h:VP k Q):VP (.ob p k) Q:=by unfold VP;rw[val_ob];exact h
theorem vp_ix {i:Int}{n:Nat}{k:Pg R}(h:VP k Q):VP (.ix i n k) Q:=by unfold VP;rw[iY];exact h
theorem vp_as {p:Prop}{k:Pg R}(h:VP k Q):VP (.as p k) Q:=by unfold VP;rw[val_as];exact h
theorem vp_lt {v:A}{k:A->Pg R}(h:∀x,x=v->VP (k x) Q):VP (.lt v k) Q:=by unfold VP;rw[val_lt];exact h v rfl
theorem vp_br {b:Bool}{t e:Pg R}(c:b=true->VP t Q)(a:b=false->VP e Q):VP (.br b t e) Q:=by
 unfold VP;rw[a_];cases b with
 | true=>exact c rfl
 | false=>exact a rfl
theorem vp_cut (c:X->Prop){a:Pg (X⊕R)}{k:X->Pg R}(b:VP a (Sum.elim c Q))(e:∀x,c x->VP (k x) Q):VP (.cut k a) Q:=by
 unfold VP at b⊢;rw[jv];cases d:a.val with
 | inl x=>rw[d]at b;exact e x b
 | inr r=>rw[d]at b;exact b
theorem vp_each {h:Bool}{s:Ix X Y}{l:List A}{d:A}{b:Int->A->Y->Pg (Y⊕R)}{c:Int->Y->Pg R}{y:Y}(I:Nat->Y->Prop)(i:I 0 y)(f:∀(k:Nat) (y:Y),k < l.length->I k y->VP (b ↑k (l.getD k d) y) (Sum.elim (I (k+1)) Q))(e:∀y,I l.length y->VP (c ↑l.length y) Q):VP (.each h s l d b c y) Q:=by
 unfold VP;rw[Ar];refine BO (d:=d) I l 0 y i (fun j y g a=> ?_) (fun y a=> ?_)
 ·rw[JH]at a⊢;exact f j y g a
 ·rw[JH]at a⊢;exact e y a
theorem vp_cnt {s:Ix X Y}{a b:Int}{c:Int->Y->Pg (Y⊕R)}{e:Int->Y->Pg R}{y:Y}(I:Int->Y->Prop)(k:I a y)
  (j:∀(i:Int) (y:Y),a<=i->i < b->I i y->VP (c i y) (Sum.elim (I (i+1)) Q)) (h:∀i y,a<=i->b<=i->I i y->VP (e i y) Q):VP (.cnt s a b c e y) Q:=by
 unfold VP;rw[tJ];refine CE (fun i y=>a<=i/\I i y) b _ a y rfl ⟨AA _,k⟩ (fun i y f d=> ?_) (fun i y f d=>h i y d.1 f d.2);have:=j i y d.1 f d.2;unfold VP at this;cases g:(c i y).val with
 | inr r=>rw[g]at this;exact this
 | inl l=>rw[g]at this;exact⟨by omega,this⟩
end
theorem fU {a:Bool}{e:Int}{x:ai}(h:(gJ a e x).out=[]):a=true/\x.out=[]:=by
 cases a with
 | true=>exact⟨rfl,h⟩
 | false=>
  have h:x.out++[dO.mk x.vI x.num e]=[]:=h;exact absurd (Qb3 List.length h) oG
theorem CP {l:List Note}{t:Int}{x:ai}(h:(nK l t x).out=[]):x.out=[]:=(fU h).2
theorem am4 {l:List lW}{a b:Int}{x:ai}(h:(SC l a b x).out=[]):x.out=[]:=by
 have k:VP (spans l a b x) (fun y=>y.out=[]->x.out=[]):=by
  unfold spans;refine vp_as (vp_each (fun _ y=>y.out=[]->x.out=[]) id (fun k y e c=> ?_) (fun y c=>vp_ret c));repeat' first
   | exact vp_ret fun h=>c (fU (fU h).2).2
   | exact vp_ret fun h=>c (fU h).2
   | refine vp_ob ?_
   | refine vp_ix ?_
   | refine vp_as ?_
   | (refine vp_lt fun x d=> ?_;subst d)
   | refine vp_br (fun _=> ?_) (fun _=> ?_)
   | refine vp_cut (fun z=>z.out=[]->x.out=[]) ?_ (fun z c=> ?_)
 exact k h
def DW (s:Schema)(f:aB):Prop:=(1<=f.Num/\f.Num<=65535)/\(1<=f.Card/\f.Card<=5/\Hq f.Card f.Key=true)/\NG s f=true
theorem am8 {s:Schema}{m:aH}{i:Int}{x:ai}(h:(ZT s m i x).out=[]):x.out=[]/\DW s (m.Fields.getD i.toNat ax):=by
 have k:VP (field s m i x) (fun y=>y.out=[]->x.out=[]/\DW s (m.Fields.getD i.toNat ax)):=by
  unfold field;simp only[AVal.cZ];generalize F:m.Fields.getD i.toNat ax=f;have d:aB.mk f.Num f.Name f.Card f.Key f.cO f.Union f.bU f.Default f.Notes=f:=rfl;rw[d];refine vp_ix (vp_cut (fun z=>z.out=[]->x.out=[]) (vp_ret fun h=>h) fun C t=>vp_cut (fun z=>z.out=[]->x.out=[]/\1<=f.Num/\f.Num<=65535) ?_ fun D e=>vp_cut (fun z=>z.out=[]->x.out=[]/\1<=f.Num/\f.Num<=65535) ?_ fun L p=>vp_cut (fun z=>z.out=[]->x.out=[]/\1<=f.Num/\f.Num<=65535) ?_ fun J n=>vp_cut (fun z=>z.out=[]->x.out=[]/\1<=f.Num/\f.Num<=65535) ?_ fun K j=>vp_cut (fun z=>z.out=[]->x.out=[]/\1<=f.Num/\f.Num<=65535) ?_ fun G g=>
   vp_cut (fun z=>z.out=[]->x.out=[]/\(1<=f.Num/\f.Num<=65535)/\(1<=f.Card/\f.Card<=5/\Hq f.Card f.Key=true)) ?_ fun I c=>vp_cut (fun z=>z.out=[]->x.out=[]/\DW s f) ?_ fun E o=>vp_cut (fun z=>z.out=[]->x.out=[]/\DW s f) ?_ fun H u=> ?_)
  ·refine vp_br (fun a=>vp_ob (vp_ret fun h=>⟨t (fU h).2,xe a,xe (fU h).1⟩)) (fun _=>vp_ob (vp_ret fun h=>absurd (fU h).1 h_))
  ·refine vp_br (fun _=>vp_ob (vp_ret fun h=>e (fU h).2)) (fun _=>vp_lt fun A b=>vp_ix (vp_ob (vp_ret fun h=>e (fU h).2)))
  ·exact vp_ob (vp_ret fun h=>p (fU h).2)
  ·exact vp_ix (vp_ob (vp_ret fun h=>n (fU h).2))
  ·refine vp_br (fun _=>vp_ob (vp_ret fun h=>j (fU h).2)) (fun _=>vp_ob (vp_ret fun h=>j (fU h).2))
  ·refine vp_lt fun v b=>vp_br (fun a=>vp_br (fun l=>vp_ob (vp_ret fun h=>⟨(g (fU h).2).1,(g (fU h).2).2,xe a,xe l,(fU h).1⟩)) (fun _=>vp_ob (vp_ret fun h=> ?_))) (fun _=>vp_ob (vp_ret fun h=> ?_))
   ·rw[b]at h;exact absurd (fU h).1 h_
   ·rw[b]at h;exact absurd (fU h).1 h_
  ·exact vp_ob (vp_ret fun h=>⟨(c (fU h).2).1,(c (fU h).2).2.1,(c (fU h).2).2.2,(fU h).1⟩)
  ·exact vp_ob (vp_ob (vp_ret fun h=>o (fU h).2))
  ·refine vp_ob (vp_lt fun w q=>vp_ob (vp_lt fun B r=>vp_ret fun h=> ?_));subst q r;exact u (fU (CP h)).2
 exact k h
theorem alg {s:Schema}{m:aH}{b:List (Str×Bool)}(h:wU s m b=[]){i:Nat}(f:i < m.Fields.length):DW s (m.Fields.getD i ax):=by
 have k:VP (aaC s m b) (fun r=>r=[]->∀i,i < m.Fields.length->DW s (m.Fields.getD i ax)):=by
  unfold aaC;refine vp_cut (fun _=>True) (vp_ob (vp_ob (vp_ret trivial))) fun q _=>vp_cut (fun _=>True) (vp_br (fun _=>vp_ob (vp_as (vp_as (vp_ret trivial)))) (fun _=>vp_ob (vp_ret trivial))) fun t _=>
   vp_cut (fun y=>y.out=[]->∀i,i < m.Fields.length->DW s (m.Fields.getD i ax)) (vp_as (vp_cnt (fun i y=>y.out=[]->∀j:Nat,(j:Int) < i->DW s (m.Fields.getD j ax)) (fun _ j c=>absurd c ah) (fun i y p o a=>vp_ob (vp_ret fun h=> ?_)) (fun i y p o a=>vp_ret fun h j c=>a h j ah))) fun u n=>
   vp_ob (vp_as (vp_each (fun _ y=>y.out=[]->∀i,i < m.Fields.length->DW s (m.Fields.getD i ax)) (fun h=>n (am4 h)) (fun k y v a=>vp_ix (vp_ob (vp_ob (vp_ret fun h=>a (fU h).2)))) (fun y a=>vp_ob (vp_ob (vp_lt fun w g=>vp_ob (vp_ret fun h=> ?_))))))
  ·obtain⟨l,d⟩:=am8 h;intro j c;rcases Int.lt_or_eq_of_le (show(j:Int)<=i by omega)with e | e
   ·exact a l j e
   ·rw[<-e]at d;exact d
  ·subst g;exact a (CP (fU h).2)
 exact k h i f
theorem aqv {s:Schema}(h:QJ s=[]){m:aH}(o:m∈s.Messages):wU s m (sG s)=[]:=by
 have k:VP (aes s) (fun r=>r=[]->∀i,i < s.Messages.length->wU s (s.Messages.getD i dP) (sG s)=[]):=by
  unfold aes;refine vp_ob (vp_lt fun u _=>vp_cut (fun _=>True) ?_ fun B _=>vp_cut (fun _=>True) (vp_ob (vp_ret trivial)) fun A _=>vp_ob (vp_cut (fun y=>y.out=[]->∀i,i < s.Messages.length->wU s (s.Messages.getD i dP) (sG s)=[]) ?_ fun t f=>vp_cut (fun y=>y.out=[]->∀i,i < s.Messages.length->wU s (s.Messages.getD i dP) (sG s)=[]) ?_ fun w g=> ?_))
  ·repeat' first
    | exact vp_ret trivial
    | refine vp_ob ?_
    | refine vp_lt fun _ _=> ?_
    | refine vp_cut (fun _=>True) ?_ fun _ _=> ?_
  ·refine vp_as (vp_each (fun n y=>y.out=[]->∀i,i < n->wU s (s.Messages.getD i dP) (sG s)=[]) (fun _ i b=>absurd b ah) (fun k y j a=>vp_ix (vp_ob (vp_lt fun x c=>vp_ob (vp_ret fun h=> ?_)))) (fun y a=>vp_ret a));intro i b;obtain⟨p,q⟩:=Qcj.1 h;rcases Qb8 i k with l | z
   ·exact a p i l
   ·rw[show i=k by omega,<-c];exact q
  ·exact vp_as (vp_each (fun _ y=>y.out=[]->∀i,i < s.Messages.length->wU s (s.Messages.getD i dP) (sG s)=[]) f (fun k y j a=>vp_ix (vp_ob (vp_lt fun v c=>vp_ob (vp_ret fun h=>a (Qcj.1 h).1)))) (fun y a=>vp_ret a))
  ·exact vp_as (vp_each (fun _ y=>y.out=[]->∀i,i < s.Messages.length->wU s (s.Messages.getD i dP) (sG s)=[]) g (fun k y j a=>vp_ix (vp_ob (vp_lt fun v c=>vp_ob (vp_ret fun h=>a (Qcj.1 h).1)))) (fun y a=>vp_ret a))
 obtain⟨i,b,e⟩:=NM (d:=dP) o;rw[<-e];exact k h i b
theorem ak7 {s:Schema}(h:oQ s=true){m:aH}(k:m∈s.Messages){f:aB}(b:f∈m.Fields):DW s f:=by
 have e:QJ s=[]:=by
  unfold oQ YT at h;simp only[val_ob,val_lt,val_as,val_ret]at h;cases c:QJ s with
  | nil=>rfl
  | cons a l=>rw[c]at h;simp at h;omega
 obtain⟨i,j,g⟩:=NM (d:=ax) b;rw[<-g];exact alg (aqv e k) j
def aGt (x:Note)(a:Str):Pg Bool:=.ret (x.Name==a)
def acC (x:Note)(a:Str):=(aGt x a).val
def aqK:Ent Z:=vz [] [] (aCons (aAgg zA) (a1 (fG 0))) (b1 (aF cStr)) (R1 aj) [0] func264 1 (u11 aGt)
def aB0:Ent Z:=Me [aqK] jB 264 [0] (b1 (aF cStr)) func263 zC fun x b=>acC x b
def agL (l:List Note)(a:Str):Pg Int:=.ret (eX (fun(x:Note)=>acC x a) l)
def ahA (l:List Note)(a:Str):=(agL l a).val
def ar9:Ent Z:=E0 [aB0,aqK] [] (aCons (aLf jB) (a1 (aLf cStr))) (R1 cI) [] func188 1 (u2 agL)
def ahU (l:List Note)(a:Str):Pg (AVal×Bool):=.lt (ahA l a) fun b=> .br (decide (b < 0)) (.ret (AVal.mk 0 0 [] [] [] [] [],false)) (.ix b l.length (.ret ((l.getD b.toNat zC).Val.re,true)))
def ad2 (l:List Note)(a:Str):=(ahU l a).val
theorem atQ (l:List Note)(a:Str):Is (ahU l a):=
 bg fun c b=>aQ iR (fun _=>aW ah (by rw[b];exact(lI (fun(x:Note)=>acC x a) l).1) is_ret)
def akd:Ent Z:=E0 [ar9] [] (aCons (aLf jB) (a1 (aLf cStr))) (shr [.slot 0 true (nn 7), s0 1] (lCons ay (l1 aj))) [] func115 2 (u2 ahU) fun a=>atQ a.1 a.2
def agG (l:List Note):Pg (List UInt8):=.ret (ad2 l [97,108,105,97,115]).1.Text
def Gl (l:List Note):=(agG l).val
def aob:Ent Z:=E0 [akd] [] (a1 (aLf jB)) (R1 cStr) [] func110 1 agG
def asZ (l:List lW):Pg (List lW):=.unk false (fun(b:Bool)=>b=true->l.length=0) (.ret []) (.ob (bM (0+l.length) 16) (.ret l))
theorem ak5 (l:List lW)(h:l.length<=1048576):Is (asZ l):=
 uz (room_of ah ah)
def aoj:Ent Z:=E2 [] [] (a1 (aLf mO)) (shr [.slot 0 false [some 218]] (l1 mO)) [] func114 1 asZ (fun a=>some (a.length<=1048576)) (fun a=>a) fun a h=>⟨ak5 a h,rfl⟩
def aoZ (e:df):Pg df:=.ob (e.Reserved.length<=1048576) (aL e.Items (.each false lF e.Items jF (fun c b (a:df)=> .ix c e.Items.length (.lt (ad2 b.Notes [97,108,105,97,115]) fun d=> .br d.2 (.ob (bM (a.Items.length+1) 48) (rl (df.mk a.Name a.Open (a.Items++[Item.mk b.Name b.Num [Note.mk [97,108,105,97,115] d.1.re]]) a.Reserved a.Notes))) (.ob (bM (a.Items.length+1) 48) (rl (df.mk a.Name a.Open (a.Items++[Item.mk b.Name b.Num []]) a.Reserved a.Notes))))) (fun c (a:df)=> .ret a) (df.mk e.Name e.Open [] e.Reserved [])))
def EK (e:df):=(aoZ e).val
theorem Wp (e:df)(h:e.Reserved.length<=1048576/\e.Items.length<=1048576):IsP (aoZ e) (fun r=>r.Items.length=e.Items.length/\r.Reserved=e.Reserved/\r.Name=e.Name):=
 isP_ob (qbx) (isP_as <| isP_each (fun(b:Nat) a=>a.Items.length=b/\a.Reserved=e.Reserved/\a.Name=e.Name) (by exact⟨rfl,rfl,rfl⟩) ah (fun b a f c=>have hI:a.Items.length=b/\a.Reserved=e.Reserved/\a.Name=e.Name:=c;isP_ix ah ah (isP_lt fun g d=>isP_br (fun _=>isP_ob (qbx) (isP_ret qbd)) (fun _=>isP_ob (qbx) (isP_ret qbd)))) (fun a hI=>have hI:a.Items.length=e.Items.length/\a.Reserved=e.Reserved/\a.Name=e.Name:=hI;isP_ret qbd))
def aw9:Ent Z:=E1 [aoj,akd] [jS 3 (aT (fun b=>[s0 20, .cells (pid (b 3)) [none,none,some 220,none,none]]) (lCons cI (l1 iF))),jS 800001 (aT (fun b=>[.cells (pid (b 3)) [none,none,some 220,none,none]]) (l1 iF))] (a1 (aAgg iF)) (shr [.slot 0 true (nn 5)] (l1 iF)) [] func54 1 aoZ (fun a=>a.Reserved.length<=1048576/\a.Items.length<=1048576) fun a h=>(Wp a h).1
def aFj (x:aH)(t:oN):Pg Bool:=.ret (x.Name==t.Name)
def aAm (x:aH)(t:oN):=(aFj x t).val
def aq0:Ent Z:=vz [] [] (aCons (aAgg dG) (a1 (fG 0))) (b1 (aF rU)) (R1 aj) [0] func185 1 (u11 aFj)
def aDo:Ent Z:=Me [aq0] pW 185 [0] (b1 (aF rU)) func184 dP fun x b=>aAm x b
def aHz (x:df)(t:oN):Pg Bool:=.ret (x.Name==t.Name)
def aAz (x:df)(t:oN):=(aHz x t).val
def aoi:Ent Z:=vz [] [] (aCons (aAgg iF) (a1 (fG 0))) (b1 (aF rU)) (R1 aj) [0] func187 1 (u11 aHz)
def AO:Ent Z:=Me [aoi] dY 187 [0] (b1 (aF rU)) func186 jg fun x b=>aAz x b
def XG (s:Schema)(t:oN):Pg Int:=.br (t.Kind==10) (.ret (eX (fun(x:aH)=>aAm x t) s.Messages)) (.br (t.Kind==9) (.ret (eX (fun(x:df)=>aAz x t) s.Enums)) (.ret (-1)))
def uB (s:Schema)(t:oN):=(XG s t).val
def akP:Ent Z:=E0 [apt,aDo,aq0,yP,AO,aoi] [] (aCons (aAgg cd_Schema) (a1 (aAgg rU))) (R1 cI) [] func111 1 (u2 XG)
def alY (s:Schema)(m:aH)(o:Op):Prop:=∃f∈m.Fields,o.Kind=f.cO.Kind/\o.Card=f.Card/\o.Key=f.Key/\o.Target=uB s f.cO/\o.Alias=Gl f.Notes/\o.Num=f.Num
theorem ar5 {s:Schema}{m:aH}{l:List Op}(h:∀o∈l,alY s m o){f:aB}(b:f∈m.Fields){u:Int}:∀o∈l++[Op.mk f.Num f.Name (Gl f.Notes) f.Card f.Key f.cO.Kind (uB s f.cO) u],alY s m o:=fun o a=>by
 rcases xN.1 a with a | a
 ·exact h o a
 ·rw[Be.1 a];exact⟨f,b,rfl,rfl,rfl,rfl,rfl,rfl⟩
theorem DL {A B:Type}{g:A->B}{l:List A}{i:Nat}{d:A}(a:i < l.length):(l.take (i+1)).map g=(l.take i).map g++[g (l.getD i d)]:=by
 rw[take_snoc (d:=d) a,Qdl];rfl
def aqB (s:Schema)(m:aH):Pg aY:=aL m.Fields (.each false lF m.Fields ax (fun e b (a:List Str×aY)=> .ix e m.Fields.length (.lt (uB s b.cO) fun d=> .lt (Gl b.Notes) fun c=> .br (b.Union !=[]) (.br (!a.1.any fun(x:Str)=>b.Union==x) (.ob (bM (a.1.length+1) 16) (.ob (bM (a.2.Ops.length+1) 80) (.lt (a.1++[b.Union]) fun(f:List Str)=> rl (f, aY.mk a.2.Name (a.2.Ops++[Op.mk b.Num b.Name c b.Card b.Key b.cO.Kind d (eX (fun(x:Str)=>b.Union==x) f)]) a.2.TY)))) (.ob (bM (a.2.Ops.length+1) 80) (rl (a.1, aY.mk a.2.Name (a.2.Ops++[Op.mk b.Num b.Name c b.Card b.Key b.cO.Kind d (eX (fun(x:Str)=>b.Union==x) a.1)]) a.2.TY)))) (.ob (bM (a.2.Ops.length+1) 80) (rl (a.1,aY.mk a.2.Name (a.2.Ops++[Op.mk b.Num b.Name c b.Card b.Key b.cO.Kind d (-1)]) a.2.TY))))) (fun e (a:List Str×aY)=> aL a.1 (.ret (aY.mk a.2.Name a.2.Ops (↑a.1.length:Int)))) ([],aY.mk m.Name [] 0))
def qB (s:Schema)(m:aH):=(aqB s m).val
theorem BV (s:Schema)(m:aH)(h:m.Fields.length<=1048576):IsP (aqB s m) (fun g=>g.Ops.length<=m.Fields.length/\g.Name=m.Name/\∀o∈g.Ops,alY s m o):=
 isP_as <| isP_each (fun(b:Nat) a=>a.1.length<=b/\a.2.Ops.length<=b/\a.2.Name=m.Name/\∀o∈a.2.Ops,alY s m o) (by exact⟨lH 0,lH 0,rfl,fun o e=>absurd e oG⟩) ah (fun b a nO c=>have hI:a.1.length<=b/\a.2.Ops.length<=b/\a.2.Name=m.Name/\∀o∈a.2.Ops,alY s m o:=c;isP_ix ah ah (isP_lt fun i hv4=>isP_lt fun f hv5=>isP_br (fun _=>isP_br (fun _=>isP_ob (qa8) (isP_ob (qa8) (isP_lt fun j hv6=>isP_ret qav))) (fun _=>isP_ob (qa8) (isP_ret qav))) (fun _=>isP_ob (qa8) (isP_ret qav)))) (fun a hI=>have hI:a.1.length<=m.Fields.length/\a.2.Ops.length<=m.Fields.length/\a.2.Name=m.Name/\∀o∈a.2.Ops,alY s m o:=hI;isP_as <| isP_ret qav)
def ayw:Ent Z:=E1 [aob,akP,aiy,aAt] [jS 4 (aT (fun b=>[s0 16, .slot 6 false [some 9], .cells (pid (b 5)) [none,some 213,none]]) (lCons cI (lCons aV (l1 fJ)))),jS 800001 (aT (fun b=>[.cells (pid (b 5)) [none,some 213,none]]) (l1 fJ))] (aCons (aAgg cd_Schema) (a1 (aAgg dG))) (shr [.slot 0 true (nn 3)] (l1 fJ)) [] func53 1 (u2 aqB) (fun a=>a.2.Fields.length<=1048576) fun a h=>(BV a.1 a.2 h).1
def ac5 (s:Schema):Pg (bJ×Int):=.ob (okS s) (.br (!oQ s) (.ret (bJ.mk [] [],1)) (.cut (fun(g:bJ)=> aL s.Enums (.each false lF s.Enums jg (fun f c (a:bJ)=> .ix f s.Enums.length (.ob (c.Reserved.length<=1048576/\c.Items.length<=1048576) (.ob (bM (a.Enums.length+1) 96) (rl (bJ.mk a.aO (a.Enums++[EK c])))))) (fun f (a:bJ)=> .ret (a,0)) g)) (aL s.Messages (.each false lF s.Messages dP (fun e d (b:bJ)=> .ix e s.Messages.length (.ob (d.Fields.length<=1048576) (.ob (bM (b.aO.length+1) 48) (rl (bJ.mk (b.aO++[qB s d]) b.Enums))))) (fun e (b:bJ)=> rl b) (bJ.mk [] [])))))
def iP (s:Schema):=(ac5 s).val
theorem Wv (s:Schema)(h:okS s):IsP (ac5 s) (fun r=>r.2=0->oQ s=true/\r.1=bJ.mk (s.Messages.map (qB s)) (s.Enums.map EK)):=
 have n:s.Messages.length<=150:=h.1;have m:s.Enums.length<=150:=h.2.1;isP_ob (qaw) (isP_br (fun _=>isP_ret qas) (fun _=>isP_cut (fun i=>i=bJ.mk (s.Messages.map (qB s)) []) (isP_as <| isP_each (fun(f:Nat) c=>c=bJ.mk ((s.Messages.take f).map (qB s)) []) (by rfl) ah (fun f c o k=>have hI:c=bJ.mk ((s.Messages.take f).map (qB s)) []:=k;isP_ix ah ah (isP_ob (qaw) (isP_ob (qaw) (isP_ret qas)))) (fun c hI=>have hI:c=bJ.mk ((s.Messages.take s.Messages.length).map (qB s)) []:=hI;isP_ret qas)) (fun i a=>have a:i=bJ.mk (s.Messages.map (qB s)) []:=a;isP_as <| isP_each (fun(g:Nat) b=>b=bJ.mk (s.Messages.map (qB s)) ((s.Enums.take g).map EK)) (by(rw[a];rfl)) ah (fun g b l j=>have hI:b=bJ.mk (s.Messages.map (qB s)) ((s.Enums.take g).map EK):=j;isP_ix ah ah (isP_ob (qaw) (isP_ob (qaw) (isP_ret qas)))) (fun b hI=>have hI:b=bJ.mk (s.Messages.map (qB s)) ((s.Enums.take s.Enums.length).map EK):=hI;isP_ret qas))))
def BQ:Ent Z:=E1 [SY,ayw,aw9] [jS 5 (aT (fun b=>[s0 16, .cells (pid (b 4)) [some 148,some 152]]) (lCons cI (l1 b_))),jS 10 (aT (fun b=>[s0 32, .cells (pid (b 4)) [some 148,some 152]]) (lCons cI (l1 b_))),jS 100009 (aT (fun b=>[.cells (pid (b 4)) [some 148,some 152]]) (l1 b_)),jS 800003 (aT (fun b=>[.cells (pid (b 4)) [some 148,some 152]]) (l1 b_))] (a1 (aAgg cd_Schema)) (shr [.slot 0 true [none,none], s0 1] (lCons b_ (l1 cI))) [] func23 2 ac5 (fun a=>okS a) fun a h=>(Wv a h).1
theorem acs {s:Schema}(a:okS s)(h:(iP s).2=0):oQ s=true/\(iP s).1=bJ.mk (s.Messages.map (qB s)) (s.Enums.map EK):=(Wv s a).2 h
theorem key_ok {b a:Int}(h:Hq b a=true)(e:b=5):fA a=true:=by
 subst e;unfold Hq aed at h;simp only[a_,val_ret]at h;by_cases c:1<=a
 ·by_cases d:a<=7
  ·unfold fA sIs;simp only[a_,val_ret];rw[pY c];exact pY ah
  ·rw[pY c,nU d]at h;cases h
 ·rw[nU c]at h;cases h
theorem amk {s:Schema}{t:oN}(h:(kQ s t.Name).2=true)(b:t.Kind=10):0<=uB s t/\uB s t < s.Messages.length:=by
 have e:uB s t=eX (fun(x:aH)=>x.Name==t.Name) s.Messages:=by
  unfold uB XG;simp only[a_,val_ret,b];rfl
 have a:=(lI (fun(x:aH)=>x.Name==t.Name) s.Messages).1;rw[KX]at h;rw[e];by_cases c:eX (fun(x:aH)=>x.Name==t.Name) s.Messages < 0
 ·rw[pY c]at h;cases h
 ·exact⟨by omega,a⟩
theorem alR {s:Schema}{f:aB}(h:NG s f=true)(a:f.cO.Kind=10):(kQ s f.cO.Name).2=true:=by
 unfold NG agc at h;simp only[val_lt,a_,val_ret,a]at h;cases e:(kQ s f.cO.Name).2 with
 | true=>rfl
 | false=>
  rw[e]at h;have h:(bif false then f.Card !=3 else false)=true:=h;cases h
theorem Y6 {s:Schema}(i:okS s)(h:(iP s).2=0):bZ (iP s).1:=by
 obtain⟨n,e⟩:=acs i h;rw[e];intro g w;obtain⟨m,c,rfl⟩:=Qbf.1 w;have a:=i.2.2.2.1 m c;obtain⟨j,_,q⟩:=(BV s m a.1).2;refine⟨zW j a.1,fun o r=> ?_⟩;obtain⟨f,p,t,u,k,v,_,l⟩:=q o r;obtain⟨f0,⟨f1,f2,f3⟩,f4⟩:=ak7 n c p;refine⟨fun b=> ?_,fun d=> ?_,by rw[l];exact f0⟩
 ·rw[t]at b;obtain⟨t1,t2⟩:=amk (alR f4 b) b;show 0<=o.Target/\o.Target < ((s.Messages.map (qB s)).length:Int)
  rw[v,Na];exact⟨t1,t2⟩
 ·rw[u]at d;rw[k];exact key_ok f3 d
def okN (s:Schema):Prop:=∀m∈s.Messages,∀f∈m.Fields,∀n∈f.Notes,n.Val.Text.length<=1048576
def Gt (p:bJ):Prop:=p.aO.length<=1048576/\(∀x∈p.aO,x.Name.length<=4294967296)/\(∀x∈p.Enums,x.Name.length<=4294967296)/\∀x∈p.aO,∀o∈x.Ops,o.Alias.length<=1048576
theorem al0 {l:List Note}(h:∀n∈l,n.Val.Text.length<=1048576):(Gl l).length<=1048576:=by
 have b:=(lI (fun(x:Note)=>acC x [97,108,105,97,115]) l).1;unfold Gl agG ad2 ahU ahA agL;simp only[val_lt,a_,iY,val_ret,AVal.cZ];by_cases a:eX (fun(x:Note)=>acC x [97,108,105,97,115]) l < 0
 ·rw[pY a];exact qR _
 ·rw[nU a];exact h _ (getD_mem ah)
theorem aCv {s:Schema}(c:okS s)(l:okN s)(h:(iP s).2=0):Gt (iP s).1:=by
 obtain⟨_,e⟩:=acs c h;rw[e];refine⟨?_,?_,?_,?_⟩
 ·show(s.Messages.map (qB s)).length<=1048576
  rw[Na];have:=c.1;omega
 ·intro g d;obtain⟨m,b,rfl⟩:=Qbf.1 d;have a:=c.2.2.2.1 m b;have i:(qB s m).Name=m.Name:=(BV s m a.1).2.2.1;rw[i];have:=a.2.2.2.1;omega
 ·intro g d;obtain⟨m,b,rfl⟩:=Qbf.1 d;have a:=c.2.2.2.2.1 m b;have i:(EK m).Name=m.Name:=(Wp m ⟨a.2.1,a.1⟩).2.2.2;rw[i];have:=a.2.2;omega
 ·intro g d o n;obtain⟨m,b,rfl⟩:=Qbf.1 d;obtain⟨f,j,_,_,_,_,k,_⟩:=(BV s m (c.2.2.2.1 m b).1).2.2.2 o n;rw[k];exact al0 (l m b f j)
def aGR (x:aY):Pg Bool:=.ret (decide (64 < (↑x.Ops.length:Int)))
def ahM (x:aY):=(aGR x).val
def YL:Ent Z:=E0 [] [] (a1 (aAgg fJ)) (R1 aj) [] func332 1 aGR
def Jk:Ent Z:=EI [YL] g_ 332 func173 bH ahM
def J5:Ent Z:=EA [uu,Jk,YL] g_ 332 func436 ahM
def Jw:Ent Z:=E0 [YL,J5] [] (aCons (aLf g_) (a1 (ja 332 []))) (R1 aj) [] func331 1 fun a=>.ret (a.1.any fun(x:aY)=>(ahM x))
def aB4 (x:df):Pg Bool:=.br (decide ((↑x.Items.length:Int) < 1)) (.ret true) (.br (decide (64 < (↑x.Items.length:Int))) (.ret true) (.ret (decide (16 < (↑x.Reserved.length:Int)))))
def Vk (x:df):=(aB4 x).val
def YX:Ent Z:=E0 [] [] (a1 (aAgg iF)) (R1 aj) [] func334 1 aB4
def EU:Ent Z:=EI [YX] dY 334 func186 jg Vk
def Em:Ent Z:=EA [yP,AO,EU,YX] dY 334 func437 Vk
def EF:Ent Z:=E0 [YX,Em] [] (aCons (aLf dY) (a1 (ja 334 []))) (R1 aj) [] func333 1 fun a=>.ret (a.1.any fun(x:df)=>(Vk x))
def Rk (p:bJ):Pg Bool:=.br (decide (64 < max (↑p.aO.length:Int) (↑p.Enums.length:Int))) (aL p.aO (aL p.Enums (.ret true))) (.br (p.aO.any fun(x:aY)=>ahM x) (aL p.aO (aL p.Enums (.ret true))) (aL p.aO (aL p.Enums (.ret (p.Enums.any fun(x:df)=>Vk x)))))
def I_ (p:bJ):=(Rk p).val
def aeL:Ent Z:=E0 [Jw,YL,EF,YX] [] (a1 (aAgg b_)) (R1 aj) [] func244 1 Rk
def aj_ (s:Str):Pg Bool:=.br (uO s) (.ret !Dp s) (.ret false)
def adw (s:Str):=(aj_ s).val
def Vu:Ent Z:=E0 [Hr,x8] [] (a1 (aLf cStr)) (R1 aj) [] func339 1 aj_
def aAK (s:Str):Pg Bool:=.ob (List.length s<=4294967296) (.br (BH s) (.ob ([46]=rQ/\List.length s<=4294967296) (.ret !(kw 46 s).any fun(x:Str)=>Dp x)) (.ret false))
def as3 (s:Str):=(aAK s).val
def ajX:Ent Z:=E1 [Oa,aaG,XE,afs,atg,aqM,Q8,x8] [] (a1 (aLf cStr)) (R1 aj) [] func336 1 aAK fun a=>a.length<=4294967296
def azI (x:Op):Pg Bool:=.ret !adw x.Name
def Yk (x:Op):=(azI x).val
def N8:Ent Z:=E0 [Vu] [] (a1 (aAgg gU)) (R1 aj) [] func338 1 azI
def G8:Ent Z:=EI [N8] lN 338 func422 x9 Yk
def FO:Ent Z:=EA [N8,Js,G8] lN 338 func438 Yk
def H8:Ent Z:=E0 [N8,FO] [] (aCons (aLf lN) (a1 (ja 338 []))) (R1 aj) [] func337 1 fun a=>.ret (a.1.any fun(x:Op)=>(Yk x))
def aGJ (x:aY):Pg Bool:=.ob (List.length x.Name<=4294967296) (.br (!as3 x.Name) (.ret true) (.ret (x.Ops.any fun(x:Op)=>Yk x)))
def Kr (x:aY):=(aGJ x).val
def Zl:Ent Z:=E1 [ajX,H8,N8] [] (a1 (aAgg fJ)) (R1 aj) [] func335 1 aGJ fun a=>a.Name.length<=4294967296
def aF2 (l:List aY):Pg Int:=aL l (.each false m_ l bH (fun a b (c:Unit)=> .ix a l.length (.ob (List.length b.Name<=4294967296) (.br (Kr b) (.ret (.inr a)) (rl ())))) (fun a (c:Unit)=> .ret (-1)) ())
theorem avK (l:List aY)(h:∀x∈l,x.Name.length<=4294967296):Is (aF2 l):=
 bW fun _=>dh (.inr ah) (fun b a _ _=>aW ah ah (az ((h _ (getD_mem ah))) (is_br iR iR))) (fun a _=>is_ret)
def Qz:Ent Z:=E2 [Zl] [jS 2 (aT (fun b=>[s0 8]) (l1 cI))] (aCons (aLf g_) (a1 (ja 335 []))) (R1 cI) [] func173 1 (fun a=>aF2 a.1) (fun a=>some (∀x∈a.1,x.Name.length<=4294967296)) (fun a=>eX (fun(x:aY)=>(Kr x)) a.1) fun a h=>⟨avK a.1 h,(fun(l:List aY) _=>lJ (fun(x:aY)=>(Kr x)) l 0) a.1 h⟩
def aGB (l:List aY):Pg Bool:=.ob (∀(x:aY),x∈l->List.length x.Name<=4294967296) (.lt (eX (fun(x:aY)=>Kr x) l) fun a=> .ret (decide (0<=a)))
theorem ayH (l:List aY)(h:∀x∈l,x.Name.length<=4294967296):Is (aGB l):=
 az (h) (bg fun b a=>is_ret)
def O0:Ent Z:=E2 [uu,Jk,Qz,Zl] [] (aCons (aLf g_) (a1 (ja 335 []))) (R1 aj) [] func436 1 (fun a=>aGB a.1) (fun a=>some (∀x∈a.1,x.Name.length<=4294967296)) (fun a=>a.1.any fun(x:aY)=>(Kr x)) fun a h=>⟨ayH a.1 h,(fun(l:List aY) _=>nJ _ l) a.1 h⟩
def aHY (l:List aY):Pg Bool:=.ob (∀(x:aY),x∈l->List.length x.Name<=4294967296) (.ret (l.any fun(x:aY)=>Kr x))
theorem axX (l:List aY)(h:∀x∈l,x.Name.length<=4294967296):Is (aHY l):=
 az (h) (is_ret)
def QN:Ent Z:=E2 [Zl,J5,O0] [] (aCons (aLf g_) (a1 (ja 335 []))) (R1 aj) [] func331 1 (fun a=>aHY a.1) (fun a=>some (∀x∈a.1,x.Name.length<=4294967296)) (fun a=>a.1.any fun(x:aY)=>(Kr x)) fun a h=>⟨axX a.1 h,rfl⟩
def azJ (x:Item):Pg Bool:=.ret !adw x.Name
def ZJ (x:Item):=(azJ x).val
def Oh:Ent Z:=E0 [Vu] [] (a1 (aAgg kE)) (R1 aj) [] func342 1 azJ
def OG:Ent Z:=EI [Oh] eG 342 func299 jF ZJ
def ND:Ent Z:=EA [I9,Pj,Gm,OG,Oh] eG 342 func214 ZJ
def N_:Ent Z:=E0 [Je,PQ,Ih,ND,Oh] [] (aCons (aLf eG) (a1 (ja 342 []))) (R1 aj) [] func341 1 fun a=>.ret (a.1.any fun(x:Item)=>(ZJ x))
def aFl (x:df):Pg Bool:=.ob (List.length x.Name<=4294967296) (.br (!as3 x.Name) (.ret true) (.ret (x.Items.any fun(x:Item)=>ZJ x)))
def Lj (x:df):=(aFl x).val
def X6:Ent Z:=E1 [ajX,N_,Oh] [] (a1 (aAgg iF)) (R1 aj) [] func340 1 aFl fun a=>a.Name.length<=4294967296
def aHf (l:List df):Pg Int:=aL l (.each false m_ l jg (fun a b (c:Unit)=> .ix a l.length (.ob (List.length b.Name<=4294967296) (.br (Lj b) (.ret (.inr a)) (rl ())))) (fun a (c:Unit)=> .ret (-1)) ())
theorem ays (l:List df)(h:∀x∈l,x.Name.length<=4294967296):Is (aHf l):=
 bW fun _=>dh (.inr ah) (fun b a _ _=>aW ah ah (az ((h _ (getD_mem ah))) (is_br iR iR))) (fun a _=>is_ret)
def IQ:Ent Z:=E2 [X6] [jS 2 (aT (fun b=>[s0 8]) (l1 cI))] (aCons (aLf dY) (a1 (ja 340 []))) (R1 cI) [] func186 1 (fun a=>aHf a.1) (fun a=>some (∀x∈a.1,x.Name.length<=4294967296)) (fun a=>eX (fun(x:df)=>(Lj x)) a.1) fun a h=>⟨ays a.1 h,(fun(l:List df) _=>lJ (fun(x:df)=>(Lj x)) l 0) a.1 h⟩
def aHO (l:List df):Pg Bool:=.ob (∀(x:df),x∈l->List.length x.Name<=4294967296) (.lt (eX (fun(x:df)=>Lj x) l) fun a=> .ret (decide (0<=a)))
theorem ayg (l:List df)(h:∀x∈l,x.Name.length<=4294967296):Is (aHO l):=
 az (h) (bg fun b a=>is_ret)
def JK:Ent Z:=E2 [yP,AO,EU,IQ,X6] [] (aCons (aLf dY) (a1 (ja 340 []))) (R1 aj) [] func437 1 (fun a=>aHO a.1) (fun a=>some (∀x∈a.1,x.Name.length<=4294967296)) (fun a=>a.1.any fun(x:df)=>(Lj x)) fun a h=>⟨ayg a.1 h,(fun(l:List df) _=>nJ _ l) a.1 h⟩
def aH1 (l:List df):Pg Bool:=.ob (∀(x:df),x∈l->List.length x.Name<=4294967296) (.ret (l.any fun(x:df)=>Lj x))
theorem awm (l:List df)(h:∀x∈l,x.Name.length<=4294967296):Is (aH1 l):=
 az (h) (is_ret)
def JB:Ent Z:=E2 [X6,Em,JK] [] (aCons (aLf dY) (a1 (ja 340 []))) (R1 aj) [] func333 1 (fun a=>aH1 a.1) (fun a=>some (∀x∈a.1,x.Name.length<=4294967296)) (fun a=>a.1.any fun(x:df)=>(Lj x)) fun a h=>⟨awm a.1 h,rfl⟩
def Jl (p:bJ):Pg Bool:=.ob (∀(x:aY),x∈p.aO->List.length x.Name<=4294967296) (.br (p.aO.any fun(x:aY)=>Kr x) (.ret true) (.ob (∀(x:df),x∈p.Enums->List.length x.Name<=4294967296) (.ret (p.Enums.any fun(x:df)=>Lj x))))
def ad3 (p:bJ):=(Jl p).val
theorem YK (p:bJ)(h:(∀x∈p.aO,x.Name.length<=4294967296)/\∀x∈p.Enums,x.Name.length<=4294967296):Is (Jl p):=
 az (h.1) (is_br iR (fun _=>az (h.2) (is_ret)))
def abn:Ent Z:=E1 [Jw,QN,EF,JB,Zl,X6] [] (a1 (aAgg b_)) (R1 aj) [] func245 1 Jl (fun a=>(∀x∈a.aO,x.Name.length<=4294967296)/\∀x∈a.Enums,x.Name.length<=4294967296) fun a h=>YK a h
def aF_ (x:aY)(y:aY):Pg Bool:=.ret (Op.bytesLess x.Name y.Name)
def aGn (x:aY)(y:aY):=(aF_ x y).val
def auJ:Ent Z:=E0 [] [] (aCons (aAgg fJ) (a1 (aAgg fJ))) (R1 aj) [] func344 1 (u2 aF_)
def aDx (l:List aY):Pg Bool:=.II [] (some (l.length<=9223372036854775807)) m_ 1 (↑l.length:Int) (fun a (c:Unit)=> .lt (wrp .i64 (a - 1)) fun b=> .ix b l.length (.ix a l.length (.br (!aGn (l.getD b.toNat bH) (l.getD a.toNat bH)) (.ret (.inr false)) (rl ())))) (fun a (c:Unit)=> .ret true) ()
def aHc (l:List aY):=(aDx l).val
theorem axv (l:List aY):Is (aDx l):=
 tu trivial ah (fun h=>by simp only[nG]at h;omega) (fun a b _ _ _=>jh fun d c _=>aW ah ah (aW ah ah (is_br iR iR))) (fun a b _ _=>is_ret)
def aCp:Ent Z:=E0 [auJ] [jS 2 (aT (fun b=>[s0 5]) (l1 cI))] (aCons (aLf g_) (a1 (ja 344 []))) (R1 aj) [] func343 1 (fun a=>aDx a.1) fun a=>axv a.1
def aGg (x:df)(y:df):Pg Bool:=.ret (Op.bytesLess x.Name y.Name)
def aFm (x:df)(y:df):=(aGg x y).val
def apn:Ent Z:=E0 [] [] (aCons (aAgg iF) (a1 (aAgg iF))) (R1 aj) [] func346 1 (u2 aGg)
def aDA (l:List df):Pg Bool:=.II [] (some (l.length<=9223372036854775807)) m_ 1 (↑l.length:Int) (fun a (c:Unit)=> .lt (wrp .i64 (a - 1)) fun b=> .ix b l.length (.ix a l.length (.br (!aFm (l.getD b.toNat jg) (l.getD a.toNat jg)) (.ret (.inr false)) (rl ())))) (fun a (c:Unit)=> .ret true) ()
def aH_ (l:List df):=(aDA l).val
theorem ayx (l:List df):Is (aDA l):=
 tu trivial ah (fun h=>by simp only[nG]at h;omega) (fun a b _ _ _=>jh fun d c _=>aW ah ah (aW ah ah (is_br iR iR))) (fun a b _ _=>is_ret)
def aCR:Ent Z:=E0 [apn] [jS 2 (aT (fun b=>[s0 5]) (l1 cI))] (aCons (aLf dY) (a1 (ja 346 []))) (R1 aj) [] func345 1 (fun a=>aDA a.1) fun a=>ayx a.1
def aAW (x:Op)(y:Op):Pg Bool:=.ret (decide (x.Num < y.Num))
def aCW (x:Op)(y:Op):=(aAW x y).val
def ahS:Ent Z:=E0 [] [] (aCons (aAgg gU) (a1 (aAgg gU))) (R1 aj) [] func349 1 (u2 aAW)
def ap8 (l:List Op):Pg Bool:=.II [] (some (l.length<=9223372036854775807)) m_ 1 (↑l.length:Int) (fun a (c:Unit)=> .lt (wrp .i64 (a - 1)) fun b=> .ix b l.length (.ix a l.length (.br (!aCW (l.getD b.toNat x9) (l.getD a.toNat x9)) (.ret (.inr false)) (rl ())))) (fun a (c:Unit)=> .ret true) ()
def aB2 (l:List Op):=(ap8 l).val
theorem aqc (l:List Op):Is (ap8 l):=
 tu trivial ah (fun h=>by simp only[nG]at h;omega) (fun a b _ _ _=>jh fun d c _=>aW ah ah (aW ah ah (is_br iR iR))) (fun a b _ _=>is_ret)
def ay0:Ent Z:=E0 [ahS] [jS 2 (aT (fun b=>[s0 5]) (l1 cI))] (aCons (aLf lN) (a1 (ja 349 []))) (R1 aj) [] func348 1 (fun a=>ap8 a.1) fun a=>aqc a.1
def aAR (x:Item)(y:Item):Pg Bool:=.ret (decide (x.Num < y.Num))
def aCi (x:Item)(y:Item):=(aAR x y).val
def ai5:Ent Z:=E0 [] [] (aCons (aAgg kE) (a1 (aAgg kE))) (R1 aj) [] func352 1 (u2 aAR)
def auu (l:List Item):Pg Bool:=.II [] (some (l.length<=9223372036854775807)) m_ 1 (↑l.length:Int) (fun a (c:Unit)=> .lt (wrp .i64 (a - 1)) fun b=> .ix b l.length (.ix a l.length (.br (!aCi (l.getD b.toNat jF) (l.getD a.toNat jF)) (.ret (.inr false)) (rl ())))) (fun a (c:Unit)=> .ret true) ()
def aC9 (l:List Item):=(auu l).val
theorem arM (l:List Item):Is (auu l):=
 tu trivial ah (fun h=>by simp only[nG]at h;omega) (fun a b _ _ _=>jh fun d c _=>aW ah ah (aW ah ah (is_br iR iR))) (fun a b _ _=>is_ret)
def axl:Ent Z:=E0 [ai5] [jS 2 (aT (fun b=>[s0 5]) (l1 cI))] (aCons (aLf eG) (a1 (ja 352 []))) (R1 aj) [] func351 1 (fun a=>auu a.1) fun a=>arM a.1
def aHu (x:aY):Pg Bool:=.ret !aB2 x.Ops
def ahG (x:aY):=(aHu x).val
def Zu:Ent Z:=E0 [ay0,ahS] [] (a1 (aAgg fJ)) (R1 aj) [] func347 1 aHu
def YV:Ent Z:=EI [Zu] g_ 347 func173 bH ahG
def Zk:Ent Z:=EA [uu,Jk,Qz,YV,Zu] g_ 347 func436 ahG
def Zc:Ent Z:=E0 [Zu,J5,O0,Zk] [] (aCons (aLf g_) (a1 (ja 347 []))) (R1 aj) [] func331 1 fun a=>.ret (a.1.any fun(x:aY)=>(ahG x))
def aFW (x:df):Pg Bool:=.ret !aC9 x.Items
def aj1 (x:df):=(aFW x).val
def Zr:Ent Z:=E0 [axl,ai5] [] (a1 (aAgg iF)) (R1 aj) [] func350 1 aFW
def Rx:Ent Z:=EI [Zr] dY 350 func186 jg aj1
def Rw:Ent Z:=EA [yP,AO,EU,IQ,Rx,Zr] dY 350 func437 aj1
def Rf:Ent Z:=E0 [Zr,Em,JK,Rw] [] (aCons (aLf dY) (a1 (ja 350 []))) (R1 aj) [] func333 1 fun a=>.ret (a.1.any fun(x:df)=>(aj1 x))
def P7 (p:bJ):Pg Bool:=.br (!aHc p.aO) (.ret true) (.br (!aH_ p.Enums) (.ret true) (.br (p.aO.any fun(x:aY)=>ahG x) (.ret true) (.ret (p.Enums.any fun(x:df)=>aj1 x))))
def adb (p:bJ):=(P7 p).val
def XF:Ent Z:=E0 [Jw,QN,Zc,EF,JB,Rf,aCp,auJ,aCR,apn,Zu,Zr] [] (a1 (aAgg b_)) (R1 aj) [] func246 1 P7
def azN (x:Op):Pg (List UInt8):=.ret x.Name
def aoL (x:Op):=(azN x).val
def ZP:Ent Z:=E0 [] [] (a1 (aAgg gU)) (R1 cStr) [] func356 1 azN
def azQ (y:Op)(z:Op):Pg Bool:=.ret (aoL y==aoL z)
def YI (y:Op)(z:Op):=(azQ y z).val
def N9:Ent Z:=vz [ZP] [] (aCons (aAgg gU) (aCons (fG 0) (a1 (fG 1)))) (eF (bFn 356 []) (b1 (aF gU))) (R1 aj) [0,1] func439 1 fun a=>azQ a.1.1 a.2.2
def Ot:Ent Z:=Me [N9] lN 439 [0,1] (eF (bFn 356 []) (b1 (aF gU))) func422 x9 fun x b=>YI x b.2
def M_:Ent Z:=EAB [Js,G8,Ot,N9] lN 439 [0,1] (eF (bFn 356 []) (b1 (aF gU))) func438 fun x b=>YI x b.2
def NW:Ent Z:=vz [FO,M_,N9] [] (aCons (aLf lN) (a1 (ja 439 [0,1]))) (eF (bFn 356 []) (b1 (aF gU))) (R1 aj) [0,1] func337 1 fun a=>.ret (a.1.1.any fun(x:Op)=>(YI x a.2.2))
def aFu (l:List Op):Pg Bool:=aL l (.each false m_ l x9 (fun a c (b:Unit)=> .ix a l.length (.ob ((0:Int)<=0/\0<=a/\a<=(↑l.length:Int)) (.br ((List.take a.toNat l).any fun(x:Op)=>YI x c) (.ret (.inr true)) (rl ())))) (fun a (b:Unit)=> .ret false) ())
def aG0 (l:List Op):=(aFu l).val
def aC1:Ent Z:=E0 [H8,NW,ZP,N9] [jS 2 (aT (fun b=>[s0 9]) (l1 cI))] (aCons (aLf lN) (a1 (ja 356 []))) (R1 aj) [] func355 1 fun a=>aFu a.1
def aja (x:Item):Pg (List UInt8):=.ret x.Name
def ab3 (x:Item):=(aja x).val
def Jd:Ent Z:=E0 [] [] (a1 (aAgg kE)) (R1 cStr) [] func359 1 aja
def ah2 (y:Item)(z:Item):Pg Bool:=.ret (ab3 y==ab3 z)
def H6 (y:Item)(z:Item):=(ah2 y z).val
def BR:Ent Z:=vz [Jd] [] (aCons (aAgg kE) (aCons (fG 0) (a1 (fG 1)))) (eF (bFn 359 []) (b1 (aF kE))) (R1 aj) [0,1] func440 1 fun a=>ah2 a.1.1 a.2.2
def J6:Ent Z:=Me [BR] eG 440 [0,1] (eF (bFn 359 []) (b1 (aF kE))) func299 jF fun x b=>H6 x b.2
def Jm:Ent Z:=EAB [I9,Pj,Gm,OG,J6,BR] eG 440 [0,1] (eF (bFn 359 []) (b1 (aF kE))) func214 fun x b=>H6 x b.2
def Ja:Ent Z:=vz [Je,PQ,Ih,ND,Jm,BR] [] (aCons (aLf eG) (a1 (ja 440 [0,1]))) (eF (bFn 359 []) (b1 (aF kE))) (R1 aj) [0,1] func341 1 fun a=>.ret (a.1.1.any fun(x:Item)=>(H6 x a.2.2))
def apI (l:List Item):Pg Bool:=aL l (.each false m_ l jF (fun a c (b:Unit)=> .ix a l.length (.ob ((0:Int)<=0/\0<=a/\a<=(↑l.length:Int)) (.br ((List.take a.toNat l).any fun(x:Item)=>H6 x c) (.ret (.inr true)) (rl ())))) (fun a (b:Unit)=> .ret false) ())
def awO (l:List Item):=(apI l).val
def aul:Ent Z:=E0 [N_,Ja,Jd,BR] [jS 2 (aT (fun b=>[s0 9]) (l1 cI))] (aCons (aLf eG) (a1 (ja 359 []))) (R1 aj) [] func358 1 fun a=>apI a.1
def aAa (x:df)(g:aY):Pg Bool:=.ret (x.Name==g.Name)
def ZA (x:df)(g:aY):=(aAa x g).val
def Nh:Ent Z:=vz [] [] (aCons (aAgg iF) (a1 (fG 0))) (b1 (aF fJ)) (R1 aj) [0] func354 1 (u11 aAa)
def N7:Ent Z:=Me [Nh] dY 354 [0] (b1 (aF fJ)) func186 jg fun x b=>ZA x b
def Np:Ent Z:=EAB [yP,AO,EU,IQ,Rx,N7,Nh] dY 354 [0] (b1 (aF fJ)) func437 fun x b=>ZA x b
def OI:Ent Z:=vz [Nh,Em,JK,Rw,Np] [] (aCons (aLf dY) (a1 (ja 354 [0]))) (b1 (aF fJ)) (R1 aj) [0] func333 1 fun a=>.ret (a.1.1.any fun(x:df)=>(ZA x a.2))
def aHC (x:aY)(p:bJ):Pg Bool:=.br (p.Enums.any fun(a:df)=>ZA a x) (.ret true) (.ret (aG0 x.Ops))
def ahB (x:aY)(p:bJ):=(aHC x p).val
def Zq:Ent Z:=vz [EF,JB,Rf,OI,Nh,aC1,ZP] [] (aCons (aAgg fJ) (a1 (fG 0))) (b1 (aF b_)) (R1 aj) [0] func353 1 (u11 aHC)
def ae7:Ent Z:=Me [Zq] g_ 353 [0] (b1 (aF b_)) func173 bH fun x b=>ahB x b
def afg:Ent Z:=EAB [uu,Jk,Qz,YV,ae7,Zq] g_ 353 [0] (b1 (aF b_)) func436 fun x b=>ahB x b
def afv:Ent Z:=vz [Zq,J5,O0,Zk,afg] [] (aCons (aLf g_) (a1 (ja 353 [0]))) (b1 (aF b_)) (R1 aj) [0] func331 1 fun a=>.ret (a.1.1.any fun(x:aY)=>(ahB x a.2))
def aHp (x:df):Pg Bool:=.ret (awO x.Items)
def aj9 (x:df):=(aHp x).val
def Yf:Ent Z:=E0 [aul,Jd] [] (a1 (aAgg iF)) (R1 aj) [] func357 1 aHp
def aeU:Ent Z:=EI [Yf] dY 357 func186 jg aj9
def aeA:Ent Z:=EA [yP,AO,EU,IQ,Rx,N7,aeU,Yf] dY 357 func437 aj9
def afA:Ent Z:=E0 [Yf,Em,JK,Rw,Np,aeA] [] (aCons (aLf dY) (a1 (ja 357 []))) (R1 aj) [] func333 1 fun a=>.ret (a.1.any fun(x:df)=>(aj9 x))
def atn (p:bJ):Pg Bool:=.br (p.aO.any fun(x:aY)=>ahB x p) (.ret true) (.ret (p.Enums.any fun(x:df)=>aj9 x))
def avz (p:bJ):=(atn p).val
def ase:Ent Z:=E0 [Jw,QN,Zc,afv,EF,JB,Rf,OI,afA,Zq,Yf] [] (a1 (aAgg b_)) (R1 aj) [] func247 1 atn
def az9 (x:Op):Pg Bool:=.br (decide (x.Num < 1)) (.ret true) (.ret (decide (65535 < x.Num)))
def ZF (x:Op):=(az9 x).val
def Ox:Ent Z:=E0 [] [] (a1 (aAgg gU)) (R1 aj) [] func361 1 az9
def ZR:Ent Z:=EI [Ox] lN 361 func422 x9 ZF
def ZH:Ent Z:=EA [Ox,Js,G8,Ot,ZR] lN 361 func438 ZF
def Xj:Ent Z:=E0 [Ox,FO,M_,ZH] [] (aCons (aLf lN) (a1 (ja 361 []))) (R1 aj) [] func337 1 fun a=>.ret (a.1.any fun(x:Op)=>(ZF x))
def aGK (x:aY):Pg Bool:=.ret (x.Ops.any fun(x:Op)=>ZF x)
def ahD (x:aY):=(aGK x).val
def ZY:Ent Z:=E0 [H8,NW,Xj,Ox] [] (a1 (aAgg fJ)) (R1 aj) [] func360 1 aGK
def ar7:Ent Z:=EI [ZY] g_ 360 func173 bH ahD
def arf:Ent Z:=EA [uu,Jk,Qz,YV,ae7,ar7,ZY] g_ 360 func436 ahD
def anT:Ent Z:=E0 [ZY,J5,O0,Zk,afg,arf] [] (aCons (aLf g_) (a1 (ja 360 []))) (R1 aj) [] func331 1 fun a=>.ret (a.1.any fun(x:aY)=>(ahD x))
def aFO (x:Item)(e:df):Pg Bool:=.br (decide (2147483647 < x.Num)) (.ret true) (.ret (EQ e.Reserved x.Num))
def aj2 (x:Item)(e:df):=(aFO x e).val
def Xr:Ent Z:=vz [A8] [] (aCons (aAgg kE) (a1 (fG 0))) (b1 (aF iF)) (R1 aj) [0] func441 1 (u11 aFO)
def atr:Ent Z:=Me [Xr] eG 441 [0] (b1 (aF iF)) func299 jF fun x b=>aj2 x b
def arW:Ent Z:=EAB [I9,Pj,Gm,OG,J6,atr,Xr] eG 441 [0] (b1 (aF iF)) func214 fun x b=>aj2 x b
def asX:Ent Z:=vz [Je,PQ,Ih,ND,Jm,arW,Xr] [] (aCons (aLf eG) (a1 (ja 441 [0]))) (b1 (aF iF)) (R1 aj) [0] func341 1 fun a=>.ret (a.1.1.any fun(x:Item)=>(aj2 x a.2))
def ouC (x:df):Pg Bool:=aL x.Reserved (.each false m_ x.Reserved sK (fun b a (e:Unit)=> .ix b x.Reserved.length (.br (decide (a.From < 0)) (.ret (.inr true)) (.br (decide (2147483647 < a.To)) (.ret (.inr true)) (.br (decide (a.To < a.From)) (.ret (.inr true)) (.br (decide (0 < b)) (.lt (wrp .i64 (b - 1)) fun d=> .ix d x.Reserved.length (.br (decide (a.From<=(x.Reserved.getD d.toNat sK).To)) (.ret (.inr true)) (rl ()))) (rl ())))))) (fun b (e:Unit)=> .ix 0 x.Items.length (.br ((x.Items.getD 0 jF).Num !=0) (.ret true) (.ret (x.Items.any fun(c:Item)=>aj2 c x)))) ())
def acw (x:df):=(ouC x).val
def aiz:Ent Z:=E1 [N_,Ja,asX,Xr] [jS 2 (aT (fun b=>[s0 8]) (l1 cI))] (a1 (aAgg iF)) (R1 aj) [] func362 1 ouC fun a=>0 < a.Items.length
def ouI (l:List df):Pg Int:=aL l (.each false m_ l jg (fun a b (c:Unit)=> .ix a l.length (.ob (0 < b.Items.length) (.br (acw b) (.ret (.inr a)) (rl ())))) (fun a (c:Unit)=> .ret (-1)) ())
theorem aD2 (l:List df)(h:∀x∈l,0 < x.Items.length):Is (ouI l):=
 bW fun _=>dh (.inr ah) (fun b a _ _=>aW ah ah (az ((h _ (getD_mem ah))) (is_br iR iR))) (fun a _=>is_ret)
def azK:Ent Z:=E2 [aiz] [jS 2 (aT (fun b=>[s0 8]) (l1 cI))] (aCons (aLf dY) (a1 (ja 362 []))) (R1 cI) [] func186 1 (fun a=>ouI a.1) (fun a=>some (∀x∈a.1,0 < x.Items.length)) (fun a=>eX (fun(x:df)=>(acw x)) a.1) fun a h=>⟨aD2 a.1 h,(fun(l:List df) _=>lJ (fun(x:df)=>(acw x)) l 0) a.1 h⟩
def ouA (l:List df):Pg Bool:=.ob (∀(x:df),x∈l->0 < x.Items.length) (.lt (eX (fun(x:df)=>acw x) l) fun a=> .ret (decide (0<=a)))
theorem aBt (l:List df)(h:∀x∈l,0 < x.Items.length):Is (ouA l):=
 az (h) (bg fun b a=>is_ret)
def aAv:Ent Z:=E2 [yP,AO,EU,IQ,Rx,N7,aeU,azK,aiz] [] (aCons (aLf dY) (a1 (ja 362 []))) (R1 aj) [] func437 1 (fun a=>ouA a.1) (fun a=>some (∀x∈a.1,0 < x.Items.length)) (fun a=>a.1.any fun(x:df)=>(acw x)) fun a h=>⟨aBt a.1 h,(fun(l:List df) _=>nJ _ l) a.1 h⟩
def ouO (l:List df):Pg Bool:=.ob (∀(x:df),x∈l->0 < x.Items.length) (.ret (l.any fun(x:df)=>acw x))
theorem aCf (l:List df)(h:∀x∈l,0 < x.Items.length):Is (ouO l):=
 az (h) (is_ret)
def aAM:Ent Z:=E2 [aiz,Em,JK,Rw,Np,aeA,aAv] [] (aCons (aLf dY) (a1 (ja 362 []))) (R1 aj) [] func333 1 (fun a=>ouO a.1) (fun a=>some (∀x∈a.1,0 < x.Items.length)) (fun a=>a.1.any fun(x:df)=>(acw x)) fun a h=>⟨aCf a.1 h,rfl⟩
def ai1 (p:bJ):Pg Bool:=.br (p.aO.any fun(x:aY)=>ahD x) (.ret true) (.ob (∀(x:df),x∈p.Enums->0 < x.Items.length) (.ret (p.Enums.any fun(x:df)=>acw x)))
def ap7 (p:bJ):=(ai1 p).val
def amL:Ent Z:=E1 [Jw,QN,Zc,afv,anT,EF,JB,Rf,OI,afA,aAM,ZY,aiz] [] (a1 (aAgg b_)) (R1 aj) [] func248 1 ai1 fun a=>∀x∈a.Enums,0 < x.Items.length
end
end Go.Proofs.YtjojefbphdmnjaaGreatDoor

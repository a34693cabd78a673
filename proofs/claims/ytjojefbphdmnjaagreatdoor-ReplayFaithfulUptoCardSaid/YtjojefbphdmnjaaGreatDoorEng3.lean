/- Own engine: Vdr, Vds, Vdg, Vdi, Vdj. -/
import Derived.Test.YtjojefbphdmnjaaGreatDoorEng2
import Derived.Lib.Overlaps
import Derived.Lib.AppendZerosOnto
set_option linter.unusedVariables false
set_option linter.unusedSimpArgs false
namespace Go.Vc
open Go.RowKit
section
variable {D:Type}{P:Program}{S:Sh D}{T:TypeId->Option Ty}{M N:Nat->Prop}{w w':World}{w0:Bs}{g:Nat->Option Value}{blk:Nat->Option (Bk D)}{al:Nat->Prop}
 {a:Act} {o:Oper} {K:Act->World->Prop} {Q:Exit->Act->World->Prop} {slot:Nat->Sl D} {out:Out D} {fr:Nat}
theorem CZ (t:ShOk S){d f:D}{c:Option Addr}{n a l h:Nat}(A:bQ S M w d (.slice c n a))(q:S.sub d l h=some f)(J:l<=h)(H:h<=S.len d):bQ S M w f (sliced c l h a (S.size d)):=by
 obtain⟨o,K,s⟩:=t.sub _ _ _ _ q J H;intro w' z;have u:=A w' z;generalize G:Value.slice c n a=v at u;cases u with
 | mp d m v P O V h=>rcases h.2 with⟨e,_⟩ | ⟨_,_,_,e,_⟩<;>(grind)
 | mk d N Q F U E I g r k=>
  injection G with B W C
  subst B C;show zL S w' f (.slice (if a=l then c else c.map (·.add (l*S.size d))) (h - l) (a - l))
  rw[<-K];refine zL.mk f (t.D7 _ _ _ _ q).2 _ (a - l) (fun i j=>U (l+i) j) ah ah (fun i j p b=> ?_) (fun i j p b=> ?_) (fun i j x p b y=> ?_)
  ·rw[o]at b;obtain⟨T,L,R⟩:=g (l+i) j ah b
   grind [add_add']
  ·rw[o]at b;rw[s i j ah];exact r (l+i) j ah b
  ·rw[o]at b;rw[s i j ah]at y;exact k (l+i) j x ah b y
theorem NK {n:Nat}{b:Option Operand}{l:Int}(d:∀x:Operand,(aI slot x).Rel S M w g (a.eval x))(h:bnd n (b.map (aI slot))=some l):(b=none/\l=n)\/∃x k,b=some x/\a.eval x= .int k l:=by
 cases b with
 | none=>simp only[Qbz,bnd,Og]at h;grind
 | some x=>
  simp only[Qbh]at h;unfold bnd at h;split at h
  ·grind
  ·rename_i k i c;injection c with c
   injection h with h
   subst h;have:=d x;rw[c]at this;exact .inr ⟨x,k,rfl,this⟩
  ·cases h
theorem aiV (u:ShOk S){d b:D}{f:Option Addr}{n k h:Nat}(B:bQ S M w d (.slice f n k))(r:S.sub d 0 h=some b)(I:h<=S.len d)(l:S.len b=h - 0):∃a,sliced f 0 h h (S.size d)= .slice a (S.len b) (S.len b)/\bQ S M w b (sliced f 0 h h (S.size d)):=by
 obtain⟨p,T,t⟩:=u.sub _ _ _ _ r (qR _) I;refine⟨if h=0 then f else f.map (·.add (0*S.size d)),by rw[l];rfl,?_⟩;intro w' A;have y:=B w' A;generalize H:Value.slice f n k=v at y;cases y with
 | mp d m v N l R h=>rcases h.2 with⟨e,_⟩ | ⟨_,_,_,e,_⟩<;>(grind)
 | mk d L O G U F J g s o=>
  injection H with C V E
  subst C E;show zL S w' b (.slice (if h=0 then f else f.map (·.add (0*S.size d))) (h - 0) (h - 0))
  rw[<-l];refine zL.mk b (u.D7 _ _ _ _ r).2 _ (S.len b) (fun i j=>U (0+i) j) (lH _) ah (fun i j q c=> ?_) (fun i j q c=> ?_) (fun i j x q c z=> ?_)
  ·rw[p]at c;obtain⟨Q,K,P⟩:=g (0+i) j ah c
   grind [add_add']
  ·rw[p]at c;rw[t i j ah];exact s (0+i) j ah c
  ·rw[p]at c;rw[t i j ah]at z;exact o (0+i) j x ah c z
theorem Ht {t e:TypeId}{x:Operand}{k j:Option Operand}{p s n cap:Nat}{m:Option Addr}{l d:Int}(E:o.op= .slice t x k j none)(u:P.underlying t=some (.slice e))(c:(sizeOf e).run P w= .ok p w)(D:a.eval x= .slice m n cap)(B:n<=cap)
  (z:∀x:Operand,(aI slot x).Rel S (aJ N blk g) w g (a.eval x)) (A:bnd 0 (k.map (aI slot))=some l) (y:bnd n (j.map (aI slot))=some d) (F:p=s) (K:0<=l) (J:l<=d) (I:d<=n):
  (execOp a.eval o).run P w= .ok (.value (sliced m l.toNat d.toNat cap s)) w:=by
 have b:P.elem t=e:=by simp[Program.elem,u]
 have f:P.underlying t=some (.slice (P.elem t)):=by grind
 have C:(execOp a.eval o).run P w=((Instr.slice t (.slice m (n) cap) (k.map a.eval) (j.map a.eval) none).run P w).andThen fun v w=> .ok (.value v) w:=by
  simp[execOp,E,D,run_sliceAt_slice w t _ _ _ _ f]
 rw[C];rcases NK z A with⟨rfl,H⟩ | ⟨L,r,rfl,i⟩<;>rcases NK z y with⟨rfl,G⟩ | ⟨M,q,rfl,h⟩
 ·simp only[Qbz];rw[run_slice_all w t _ _ _ f,b,c];simp_all
 ·simp only[Qbz,Qbh,h];rw[run_slice_h w t _ _ _ f q d ah ah,b,c];simp_all
 ·simp only[Qbz,Qbh,i];rw[run_slice_l w t _ _ _ f r l ah ah,b,c];simp_all
 ·simp only[Qbh,i,h];rw[run_slice_lh w t _ _ _ f r q l d ah ah ah,b,c,<-F];rfl
theorem ack {t:TypeId}{x:Operand}{W R:Option Operand}(hS:ShOk S)(L:o.op= .slice t x W R none)(p:∀t H,T t=some H->TyOk P t H)(h:Hp S w0 N blk g al w)
  (z:∀x:Operand,(aI slot x).Rel S (aJ N blk g) w g (a.eval x)) (c:aft T S blk t (aI slot x) (W.map (aI slot)) (R.map (aI slot))=some out) (X:kF out.pre) (J:Post S w0 N blk g al w fr out o.dst a K):o.wp P a w K Q:=by
 have f:=z x;unfold aft at c;split at c
 ·cases c
 ·rename_i H F;split at c
  ·cases c
  ·rename_i l I;split at c
   ·rename_i s m;rw[m]at f;simp only[Sl.Rel,Sv.Rel,Lf.Rel]at f;obtain⟨f,G⟩:=f;split at c
    ·rename_i Z;obtain⟨d,y,hkd⟩:=lK (p _ _ F);have Z:H.kind=3:=by simpa using Z
     rw[Z]at hkd;have y:P.underlying t=some .string:=by cases d<;>simp_all [kindOf]
     split at c
     ·rename_i j i;injection c with c
      subst c;obtain⟨D,C,B⟩:=X;have k:(ByteArray.mk s.toArray).size=s.length:=by rfl
      have aJn:(ByteArray.mk s.toArray).extract l.toNat j.toNat=⟨((s.take j.toNat).drop l.toNat).toArray⟩:=by
       apply ByteArray.ext;rw[ByteArray.data_extract]
       grind
      refine aP (v:= .string ⟨((s.take j.toNat).drop l.toNat).toArray⟩) ?_ h J rfl ⟨rfl,by grind⟩;rw[<-aJn];have e1:(execOp a.eval o).run P w=((Instr.slice t (.string ⟨s.toArray⟩) (W.map a.eval) (R.map a.eval) none).run P w).andThen fun v w=> .ok (.value v) w:=by
       simp[execOp,L,f,run_sliceAt_string w t _ _ _ _ y]
      rw[e1];rcases NK z I with⟨rfl,hl0⟩ | ⟨xl,kl,rfl,G⟩<;>rcases NK z i with⟨rfl,hh0⟩ | ⟨xh,kh,rfl,O⟩
      ·simp only[Qbz];rw[run_slice_string_all w t _ y];simp_all
      ·simp only[Qbz,Qbh,O];rw[run_slice_string_h w t _ y kh j ah ah];simp_all
      ·simp only[Qbz,Qbh,G];rw[run_slice_string_l w t _ y kl l ah ah];simp_all
      ·simp only[Qbh,G,O];rw[run_slice_string w t _ kl kh l j y ah ah ah];rfl
     ·cases c
    ·cases c
   ·rename_i d m;rw[m]at f;split at c
    ·cases c
    ·rename_i e E;split at c
     ·cases c
     ·rename_i te A;have r:=jr (p _ _ F) E;have k:=jG (p _ _ A) w;split at c
      ·rename_i hc;simp only[iW]at hc;have h1:=Qa hc.1;split at c
       ·rename_i j i;split at c
        ·rename_i d' M;injection c with c
         subst c;obtain⟨D,C,B⟩:=X;have f:bQ S (aJ N blk g) w d (a.eval x):=f;obtain⟨av,cap,hv,V⟩:=bQ.slice' f (hS.D7 _ _ _ _ M).1;rw[hv]at f;have Y:=CZ hS f M ah ah;refine aP (v:=sliced av l.toNat j.toNat cap (S.size d)) ?_ h J rfl Y;exact Ht L r k hv V z I i h1 D C B
        ·cases c
       ·cases c
      ·cases c
   ·rename_i q m;rw[m]at f;have f:g q=some (a.eval x):=f;split at c
    ·cases c
    ·rename_i e E;split at c
     ·cases c
     ·rename_i te A;have r:=jr (p _ _ F) E;have k:=jG (p _ _ A) w;split at c
      ·rename_i e' d hb;split at c
       ·rename_i j i;injection c with c
        subst c;obtain⟨D,C,B⟩:=X;obtain⟨v,u,_,xs,⟨_,U⟩,_⟩:=h.bY q _ hb;rw[f]at u;injection u with u
        rcases U with⟨h0,hn0⟩ | ⟨b,cap',cur,hvv,_,_,aa,_⟩
        ·exact aP (v:=_) (Ht (n:=S.len d) (cap:=0) L r k qP ah z I i rfl D C B) h J rfl ⟨none,S.len d,0,by grind,rfl,by omega,by omega,rfl⟩
        ·exact aP (v:=_) (Ht (n:=S.len d) L r k (by rw[u,hvv]) aa z I i rfl D C B) h J rfl ⟨_,S.len d,_,by grind,rfl,by omega,by omega,rfl⟩
       ·cases c
      ·cases c
   ·cases c
theorem Hp.ahq (h:Hp S w0 N blk g al w){l:Nat}{f bk':Bk D}{v:Value}(t:blk l=some f)(u:hot (some f)=true)(r:hot (some bk')=true)(x:g l=some v)
  (s:qN S (aJ N blk g) w g w0 bk' v):Hp S w0 N (upd blk l (some bk')) g al w/\Keeps (aJ N blk g) w (aJ N (upd blk l (some bk')) g) w:=by
 have b:∀n,hot (upd blk l (some bk') n)=hot (blk n):=by
  grind [bI,upd_same]
 have e:aJ N (upd blk l (some bk')) g=aJ N blk g:=by
  funext c;simp only[aJ,b]
 refine⟨⟨h.below,h.hN,?_,?_,h.al,h.refs,by rw[e];exact h.gl⟩,e▸Keeps.refl _ _⟩
 ·intro n m k;rw[e];by_cases p:n=l
  ·grind [upd_same]
  ·rw[bI _ _ _ _ p]at k;exact h.bY n m k
 ·intro a c o q d j i;rw[b]at j i;exact h.sep a c o q d j i
theorem aEi {v:Value}(h:v.oneCell'=true):one' v=true:=by cases v<;>simp_all [one',Value.oneCell']
theorem afV {c:Call}{x y:Operand}(E:ShOk S)(ho:o.op= .call c)(hc:c.callee= .builtin .copy)(hx':c.args.toList=[x,y])(R:∀t ty,T t=some ty->TyOk P t ty)(h:Hp S w0 N blk g al w)
  (D:(aI slot x).Rel S (aJ N blk g) w g (a.eval x)) (L:(aI slot y).Rel S (aJ N blk g) w g (a.eval y)) (f:arn T S blk c.argTypes (aI slot x) (aI slot y)=some out) (hK:Post S w0 N blk g al w fr out o.dst a K):o.wp P a w K Q:=by
 unfold arn at f;split at f
 ·rename_i t t' hts;split at f
  ·rename_i I;have I:=Qa I;subst I;split at f
   ·cases f
   ·rename_i ty hty;split at f
    ·cases f
    ·rename_i e hel;split at f
     ·cases f
     ·rename_i n hte;have aa:=jr (R _ _ hty) hel;have ag:=jG (R _ _ hte) w;split at f
      ·rename_i l d2 hex Ag;rw[hex]at D;rw[Ag]at L;have D:g l=some (a.eval x):=D;have L:bQ S (aJ N blk g) w d2 (a.eval y):=L;split at f
       ·rename_i e' d1 hb;split at f
        ·rename_i V;simp only[iW]at V;obtain⟨c1,c2,c3,c4⟩:=V;have c1:=Qa c1;have c2:=Qa c2;have c3:=Qa c3;have c4:0 < n.size:=by simp_all
         subst c1;split at f
         ·rename_i dp dq hdp hdq;split at f
          ·rename_i d hd;injection f with f
           subst f;generalize hm:min (S.len d2) (S.len d1)=m at*;have Y:m<=S.len d1:=by omega
           have hm2:m<=S.len d2:=by omega
           obtain⟨p1,p2,p3⟩:=E.sub _ _ _ _ hdp ah hm2;obtain⟨q1,q2,q3⟩:=E.sub _ _ _ _ hdq Y (lH _);obtain⟨k1,k2,k3,k4,k5⟩:=E.cat _ _ _ hd;have O:S.size d=n.size:=by omega
           have C:S.len d=S.len d1:=by omega
           obtain⟨av,cap,p,Z,hnl,hnc,hnz,hone,hnr⟩:=G9 (g:=g) E L ah;obtain⟨v,q,z_,xs,⟨hxl,hown⟩,M⟩:=h.bY l _ hb;rw[D]at q;injection q with q
           have B:(Builtin.firstCells n.size m (a.eval y)).run P w= .ok (p.take (m*n.size)).toArray w:=by
            rw[Z];cases av with
            | none=>
             have h0:=hnz rfl;have:m=0:=by omega
             subst this;simp[Builtin.firstCells]
            | some ad=>
             have hlen:(p.take (m*n.size)).length=m*n.size:=by
              simp_all
             have:=run_loadCells_list (P:=P) w ad (p.take (m*n.size)) (fun j u H=>hnc ad rfl j u (by
              grind))
             rw[hlen]at this;exact this
           have ab:(Builtin.lenOf (a.eval y)).run P w= .ok (S.len d2) w:=by rw[Z];rfl
           have A:c.args= #[x,y]:=by grind
           have ac:c.argTypes= #[t,t]:=by grind
           rcases hown with⟨h0,hn0⟩ | ⟨b,F,r,X,_,hh,hnc',hcm,hcs,htake⟩
           ·
            have hm0:m=0:=by omega
            subst hm0;have z:a.eval x= .slice none 0 0:=by rw[q,h0]
            have s:(execOp a.eval o).run P w= .ok (.value (goInt 0)) w:=by
             simp[execOp,ho,resolve,hc,invoke,builtin,A,ac,Builtin.copy_,run_underlying aa,z,ab,ag,B]
            obtain⟨g1,g2⟩:=h.ahq (bk':= .row e d) hb rfl rfl D (by
             rw[q];refine⟨⟨z_.1,by omega,by grind [ShOk.ann]⟩,[],⟨by simp[C,hn0], .inl ⟨h0,by omega⟩⟩,fun i j J H=>by omega⟩)
            exact jA s (hK _ _ _ (More.refl _) g2 (g1.weaken fun _ h=> .inl h) rfl)
           ·have z:a.eval x= .slice (some ⟨b,0,none⟩) (S.len d1) F:=by rw[q,X]
            have U:(p.take (m*n.size)).length=m*n.size:=by
             simp_all
            have hms:m*n.size<=S.len d1*n.size:=Qbb _ Y;have hcl:S.len d1*n.size<=r.toList.length:=by grind
            have hh':w.heap[b]? =some (.cells (r.toList).toArray e (0,0)):=by simpa using hh
            obtain⟨w',am,W,hn,hs,q1',q2',q3'⟩:=jZ (P:=P) b e (p.take (m*n.size)) w r.toList 0 0 hh' ah (by
             grind [aEi])
            have s:(execOp a.eval o).run P w= .ok (.value (goInt m)) w':=by
             have hmin:Nat.min (S.len d2) (S.len d1)=m:=hm;simp[execOp,ho,resolve,hc,invoke,builtin,A,ac,Builtin.copy_,run_underlying aa,z,ab,hmin,ag,B,am]
            have aIm:∀k,k < S.len d1*n.size->r.toList[k]? =xs[k]? :=fun k hk=>by grind
            simp only[Qba,JH,Qb2,Qcl,U]at W;obtain⟨g1,g2⟩:=h.write (bk':= .row e d) hb rfl rfl D (by rw[z];rfl) q1' q2' q3' hs hn (fun hk=>by
             rw[q];refine⟨⟨z_.1,by omega,by grind [ShOk.ann]⟩,(p.take (m*n.size)++r.toList.drop (m*n.size)).take (S.len d1*n.size),⟨?_, .inr ⟨b,F,(p.take (m*n.size)++r.toList.drop (m*n.size)).toArray,by rw[X,C],qR _,W,by omega,hcm,?_,by rw[C,O]⟩⟩,fun i j J H=> ?_⟩
             ·grind
             ·grind
             ·rw[O]at H⊢;rw[C]at J;have G:=qf J H;rw[Qc8,Ai G];have hdt:=E.data d i j ah ah;by_cases him:i < m
              ·obtain⟨u,hu,hru⟩:=hnr i j ah ah;have hlm:=qf him H
               grind [Lf.Rel.keep,More.refl]
              ·obtain⟨u,hu,_,hru⟩:=M i j J ah;have hge:m*n.size<=i*n.size:=Qbb _ ah;refine⟨u,?_,hdt,?_⟩
               ·rw[Qa6 ah,U,Qdn,show m*n.size+(i*n.size+j - m*n.size)=i*n.size+j by omega,aIm _ G,c2];exact hu
               ·have e1:S.cell d i j=S.cell d1 i j:=by
                 have e2:=k5 (i - m) j ah;rw[show S.len dp+(i - m)=i by omega]at e2;rw[e2,q3 (i - m) j ah,show m+(i - m)=i by omega]
                grind [Lf.Rel.keep,More.refl])
            exact jA s (hK _ _ _ (More.refl _) g2 (g1.weaken fun _ h=> .inl h) rfl)
          ·cases f
         ·cases f
        ·cases f
       ·cases f
      ·cases f
  ·cases f
 ·cases f
end
end Go.Vc
namespace Go.Vc
open Go.RowKit
section
variable {P:Program}{w w':World}
end
section
variable {D:Type}{P:Program}{S:Sh D}
end
end Go.Vc
namespace Go.Vc
open Go.RowKit
section
variable {D:Type}{P:Program}{S:Sh D}{T:TypeId->Option Ty}{Γ:FuncId->Option (Ct D)}{M M' N:Nat->Prop}{w w':World}{w0:Bs}{g g':Nat->Option Value}{blk:Nat->Option (Bk D)}{al:Nat->Prop}
 {a:Act} {o:Oper} {K:Act->World->Prop} {Q:Exit->Act->World->Prop} {slot:Nat->Sl D} {out:Out D} {fr:Nat} {ids jd:List Nat}
theorem fB {l:Nat}:∀{ids:List Nat},ql l ids=true ↔ l∈ids
 | []=>by simp[ql]
 | x::r=>by
  simp only[ql,Qbg,fB,IP];constructor
  ·rintro(h | h)
   ·exact .inl (Qa h).symm
   ·exact .inr h
  ·rintro(rfl | h)
   ·exact .inl oG
   ·exact .inr h
theorem nV:∀(r ids:List Nat),ids.Nodup->(mi ids r).Nodup
 | [],ids,h=>h
 | l::r,ids,h=>by
  unfold mi;refine nV r _ ?_
  grind [fB]
theorem A7:∀(n:Nat) (ids:List Nat),ids.Nodup->(reach blk n ids).Nodup
 | 0,ids,h=>h
 | n+1,ids,h=>A7 n _ (nV _ _ h)
theorem pM:∀{r:List Nat},allIn ids r=true->∀l∈r,l∈ids
 | [],_,l,a=>by simp at a
 | x::r,h,l,a=>by
  simp only[allIn,iW]at h;rcases IP.1 a with rfl | a
  ·exact fB.1 h.1
  ·exact pM h.2 l a
theorem nN:∀{ids:List Nat} {a:List (Bk D)},wS blk ids=some a->a.length=ids.length/\∀(i l:Nat),ids[i]? =some l->∃d,blk l=some d/\a[i]? =some d
 | [],a,h=>by simp[wS]at h;subst h;simp
 | x::r,a,h=>by
  unfold wS at h;split at h
  ·rename_i b e f c;injection h with h
   subst h;obtain⟨j,g⟩:=nN c
   grind
  ·cases h
theorem pI:∀{ids:List Nat} {l:Nat},l∈ids->ids[gZ ids l]? =some l
 | [],l,h=>by simp at h
 | x::r,l,h=>by
  unfold gZ;split
  ·simp_all
  ·rename_i a;have:l∈r:=by
    rcases IP.1 h with rfl | h
    ·simp at a
    ·exact h
   simpa using pI this
theorem AX (d:ids.Nodup){i l:Nat}(h:ids[i]? =some l):gZ ids l=i:=by
 have e:l∈ids:=Qbu h;have a:=pI e;have g:=(Qa8.1 h).1;have f:=(Qa8.1 a).1;have b:=(Qa8.1 h).2;have c:=(Qa8.1 a).2;exact(List.getElem_inj d).1 (c.trans b.symm)
theorem aa9 {f:Nat->Nat}:∀{a:List Nat} {b:List Value},(∀l∈a,∀v,g l=some v->g' (f l)=some v)->a.map g=b.map some->(a.map f).map g'=b.map some
 | [],[],_,_=>rfl
 | c::a,v::b,d,h=>by
  simp only[MQ,Qc5]at h⊢;exact⟨d c oG v h.1,aa9 (fun l hl=>d l qcl) h.2⟩
 | [],_::_,_,h=>by simp at h
 | _::_,[],_,h=>by simp at h
theorem Lf.Rel.ren {f:Nat->Nat}{x:Lf D}{v:Value}(h:x.Rel S M w g v)(r:∀l∈x.refs,∀u,g l=some u->g' (f l)=some u)(t:x.lC=true->∀b,M' b->M b):(x.ren f).Rel S M' w g' v:=by
 cases x with
 | ptr l o=>obtain⟨b,m,c⟩:=h;exact⟨b,r l qb6 _ m,c⟩
 | own l=>exact r l qb6 _ h
 | opt l i j y=>obtain⟨b,n,q,m,c⟩:=h;exact⟨b,n,q,r l qb6 _ m,c⟩
 | part l i j y f=>obtain⟨a,n,q,m,c⟩:=h;exact⟨a,n,q,r l qb6 _ m,c⟩
 | glb i=>exact h
 | Uo x=>exact h
 | xt e=>exact Xt.Rel.mono h (t rfl)
 | fn B z=>obtain⟨A,m,c⟩:=h;exact⟨A,m,aa9 r c⟩
 | dat d=>exact bQ.mono h (t rfl)
 | elt d i j=>obtain⟨a,n,q,m,c⟩:=h;exact⟨a,n,q,m.mono (t rfl),c⟩
 | any=>trivial
 | unk p=>exact h
 | val x=>exact h
 | bool b=>exact h
 | int k n=>exact h
 | str s=>exact h
theorem aN.ren {f:Nat->Nat}:∀{a:List (Lf D)} {e:List Value},aN S M w g a e->(∀l∈a.flatMap Lf.refs,∀u,g l=some u->g' (f l)=some u)->(a.any Lf.lC=true->∀b,M' b->M b)->aN S M' w g' (a.map (Lf.ren f)) e
 | [],[],_,_,_=>trivial
 | x::a,v::e,h,i,c=>by
  simp only[List.any_cons,Qbg]at c;exact⟨h.1.ren (fun l hl=>i l qcl) (fun d=>c (.inl d)),aN.ren h.2 (fun l hl=>i l qP) (fun d=>c (.inr d))⟩
theorem Sv.Rel.ren {f:Nat->Nat}{x:Sv D}{v:Value}(h:x.Rel S M w g v)(a:∀l∈x.refs,∀u,g l=some u->g' (f l)=some u)(c:x.lC=true->∀b,M' b->M b):(x.ren f).Rel S M' w g' v:=by
 cases x with
 | lf x=>exact Lf.Rel.ren h a c
 | agg j=>obtain⟨i,e,d⟩:=h;exact⟨i,e,d.ren a c⟩
theorem fQ.ren {f:Nat->Nat}:∀{a:List (Sv D)} {e:List Value},fQ S M w g a e->(∀l∈a.flatMap Sv.refs,∀u,g l=some u->g' (f l)=some u)->(a.any Sv.lC=true->∀b,M' b->M b)->fQ S M' w g' (a.map (Sv.ren f)) e
 | [],[],_,_,_=>trivial
 | x::a,v::e,h,i,c=>by
  simp only[List.any_cons,Qbg]at c;exact⟨h.1.ren (fun l hl=>i l qcl) (fun d=>c (.inl d)),fQ.ren h.2 (fun l hl=>i l qP) (fun d=>c (.inr d))⟩
theorem Sl.Rel.ren {f:Nat->Nat}{x:Sl D}{v:Value}(h:x.Rel S M w g v)(a:∀l∈x.refs,∀u,g l=some u->g' (f l)=some u)(c:x.lC=true->∀b,M' b->M b):(x.ren f).Rel S M' w g' v:=by
 cases x with
 | one x=>exact Sv.Rel.ren h a c
 | tup j=>obtain⟨i,e,d⟩:=h;exact⟨i,e,d.ren a c⟩
theorem Io {f:Nat->Nat}(x:Option (Bk D)):hot (x.map (Bk.ren f))=hot x:=by
 cases x with
 | none=>rfl
 | some a=>cases a<;>rfl
theorem RU {f:Nat->Nat}{x:Lf D}(h:x.iT=true):x.ren f=x:=by cases x<;>first | rfl | simp[Lf.iT]at h
theorem ab5 {x:Lf D}(h:x.iT=true):x.refs=[]:=by cases x<;>first | rfl | simp[Lf.iT]at h
theorem qN.ren {f:Nat->Nat}{B B':Bs}{c:Bk D}{v:Value}(h:qN S M w g B c v)(r:∀l∈c.refs,∀u,g l=some u->g' (f l)=some u)(x:c.lC=true->∀b,M' b->M b)
  (o:hot (some c)=true->∀b,dB v=some b->B'.Mine b):qN S M' w g' B' (c.ren f) v:=by
 cases c with
 | cells cs=>
  obtain⟨b,A,t,rfl,_,a,k⟩:=h;exact⟨b,A,t,rfl,o rfl b rfl,a,k.ren r x⟩
 | row e d=>
  obtain⟨z,H,y,G⟩:=h;refine⟨⟨o rfl,z.2⟩,H,y,fun i j F I=> ?_⟩;obtain⟨u,K,C,J⟩:=G i j F I;have:=J.ren (g':=g') (M':=M') (f:=f) (fun l q=>by rw[ab5 C]at q;simp at q) (fun _=>x rfl);rw[RU C]at this
  grind
 | ve d=>exact bQ.mono h (x rfl)
 | iter s p=>
  obtain⟨q,b,rfl,_,a⟩:=h;exact⟨q,b,rfl,o rfl b rfl,a⟩
 | map d=>
  obtain⟨m,b,E,n,z,r,rfl,_,a,k⟩:=h;exact⟨m,b,E,n,z,r,rfl,o rfl b rfl,a,k⟩
 | tc t cs=>
  obtain⟨b,A,rfl,_,a,k⟩:=h;exact⟨b,A,rfl,o rfl b rfl,a,k.ren r x⟩
def Nc (N:Nat->Prop)(a:Nat->Option (Bk D))(g:Nat->Option Value)(ids c:List Nat):Nat->Prop:=
 fun b=>N b\/∃l v,hot (a l)=true/\l∉ids/\l∉c/\g l=some v/\dB v=some b
def Xc (a:Nat->Option (Bk D))(g:Nat->Option Value)(ids:List Nat):Nat->Prop:=fun b=>∃l v,hot (a l)=true/\l∈ids/\g l=some v/\dB v=some b
def gc (g:Nat->Option Value)(ids:List Nat):Nat->Option Value:=fun i=>(ids[i]?).bind g
theorem X4 {l:Nat}(h:l∈ids):gc g ids (gZ ids l)=g l:=by simp[gc,pI h]
theorem Hp.mine (h:Hp S w0 N blk g al w){l b:Nat}{v:Value}(d:hot (blk l)=true)(c:g l=some v)(e:dB v=some b):b < w.heap.size/\w0.Mine b:=by
 obtain⟨i,_,f,a⟩:=h.at d c;exact a.lt f e
theorem Hp.adQ (h:Hp S w0 N blk g al w){l b:Nat}{v:Value}(c:hot (blk l)=true)(a:g l=some v)(d:dB v=some b):¬N b:=fun e=>by
 obtain⟨i,f⟩:=h.hN b e;rcases(h.mine c a d).2 with q | q
 ·omega
 ·exact f q
theorem ZL {b:List (Bk D)}(g:wS blk ids=some b){f:Nat->Nat}{i:Nat}{c:Bk D}(h:jC (b.map (Bk.ren f)) i=some c):∃l a,ids[i]? =some l/\blk l=some a/\a∈b/\c=a.ren f:=by
 obtain⟨n,d⟩:=nN g;simp only[jC,Qb5,Qbw]at h;obtain⟨a,o,rfl⟩:=h;have e:i < ids.length:=by grind
 obtain⟨j,m,k⟩:=d i ids[i] (Qa4 e)
 grind
theorem rW {n:List (Bk D)}(s:wS blk ids=some n){f:Nat->Nat}:∀b,aJ (Nc N blk g ids jd) (jC (n.map (Bk.ren f))) (gc g ids) b->aJ N blk g b/\(N b\/∃l v,hot (blk l)=true/\l∉jd/\g l=some v/\dB v=some b\/l∈ids/\hot (blk l)=true/\g l=some v/\dB v=some b):=by
 rintro b ((m | ⟨l,v,c,o,a,j,q⟩) | ⟨i,v,c,o,a⟩)
 ·exact⟨.inl m, .inl m⟩
 ·exact⟨.inr ⟨l,v,c,j,q⟩, .inr ⟨l,v, .inl ⟨c,a,j,q⟩⟩⟩
 ·obtain⟨t,p,u⟩:=iI c;obtain⟨l,r,h,k,_,rfl⟩:=ZL s p;have d:g l=some v:=by simpa[gc,h]using o
  have e:hot (blk l)=true:=by rw[k];have:=Io (f:=f) (some r);grind
  exact⟨.inr ⟨l,v,e,d,a⟩, .inr ⟨l,v, .inr ⟨Qbu h,e,d,a⟩⟩⟩
theorem Hp.lend (h:Hp S w0 N blk g al w){p:List (Bk D)}(J:ids.Nodup)(m:wS blk ids=some p)(q:∀y∈p,∀l∈y.refs,l∈ids)(hv:∀l∈jd,l∉ids):
  Hp S ⟨w,Xc blk g ids⟩ (Nc N blk g ids jd) (jC (p.map (Bk.ren (gZ ids)))) (gc g ids) (· < (p.map (Bk.ren (gZ ids))).length) w:=by
 obtain⟨V,ab⟩:=nN m;refine⟨zK.refl ⟨w,Xc blk g ids⟩,?_,?_,?_,?_,?_,h.gl.mono fun b c=>(rW m b c).1⟩
 ·rintro b (c | ⟨l,v,r,U,I,o,L⟩)
  ·refine⟨h.mlt (.inl c),?_⟩;rintro⟨l,v,r,U,I,o⟩;exact h.adQ r I o c
  ·refine⟨h.mlt (.inr ⟨l,v,r,o,L⟩),?_⟩;rintro⟨k,Q,R,q2,O,Y⟩;have:=h.sep l k v Q b r R o O L Y
   grind
 ·intro i y a;obtain⟨l,x,d,n,t,rfl⟩:=ZL m a;obtain⟨v,s,K⟩:=h.bY l x n;refine⟨v,by simp[gc,d,s],K.ren (fun k e u P=> ?_) (fun _ b c=>(rW m b c).1) (fun hh b c=> .inr ⟨l,v,by grind,Qbu d,s,c⟩)⟩;rw[X4 (q _ t k e)];exact P
 ·intro i j M W b a X H E F B;obtain⟨ac,z,ag⟩:=iI a;obtain⟨aa,A,ad⟩:=iI X;obtain⟨l,x,d,n,_,rfl⟩:=ZL m z;obtain⟨k,G,e,C,_,rfl⟩:=ZL m A;have T:hot (blk l)=true:=by rw[n];have:=Io (f:=gZ ids) (some x);grind
  have Z:hot (blk k)=true:=by rw[C];have:=Io (f:=gZ ids) (some G);grind
  have:=h.sep l k M W b T Z (by simpa[gc,d]using H) (by simpa[gc,e]using E) F B;subst this;rw[<-AX J d,<-AX J e]
 ·intro i v a;simp only[gc]at a
  grind
 ·intro i v a;simp only[gc]at a;cases d:ids[i]? with
  | none=>grind
  | some l=>rw[d]at a;exact h.refs l v a
end
end Go.Vc
namespace Go.Vc
open Go.RowKit
section
variable {D:Type}{P:Program}{S:Sh D}{T:TypeId->Option Ty}{Γ:FuncId->Option (Ct D)}{M M' N:Nat->Prop}{w w':World}{w0:Bs}{g g':Nat->Option Value}{blk blk':Nat->Option (Bk D)}{al:Nat->Prop}
 {a:Act} {o:Oper} {K:Act->World->Prop} {Q:Exit->Act->World->Prop} {slot:Nat->Sl D} {out:Out D} {fr:Nat} {ids jd:List Nat}
theorem Fp (h:Hp S w0 N blk g al w){c:Nat}{e:TypeId}{d:D}{v:Value}{M':Nat->Prop}(I:blk c=some (.row e d))(P:g c=some v)(O:∀b,M' b->aJ N blk g b)(L:∀b,dB v=some b->¬M' b):
  bQ S M' w d v:=by
 intro w' C;obtain⟨T,n,y,U,t,r⟩:=h.bY c _ I;rw[P]at n;injection n with n
 subst n;rcases t.2 with⟨rfl,V⟩ | ⟨b,F,o,rfl,_,A,z,_,Q,G⟩
 ·have:=zL.mk (S:=S) (w:=w') d y.2.2 none 0 (fun _ _=> .bool false) ah ah (fun i j a _=>by omega) (fun i j a _=>by omega) (fun i j _ a _=>by omega)
  grind
 ·have B:w'.heap[b]? =some (.cells o e (0,0)):=(C b (Nl A) (L b rfl)).trans A;have p:∀i j,i < S.len d->j < S.size d->∃u,o[i*S.size d+j]? =some u/\Lf.plain (S.cell d i j) u/\∀q,S.cell d i j= .dat q->zL S w' q u:=by
   intro i j a m;obtain⟨u,k,s,M⟩:=r i j a m;have R:=qf a m;have:o[i*S.size d+j]? =some u:=by
    grind
   have E:(S.cell d i j).Rel S M' w g u:=by
    have:=M.ren (g':=g) (M':=M') (f:=fun x=>x) (fun l _ u k=>k) (fun _=>O);rw[RU s]at this;exact this
   exact⟨u,this,EW s E C⟩
  refine zL.mk (S:=S) (w:=w') d y.2.2 (some ⟨b,0,none⟩) F (fun i j=>(o[i*S.size d+j]?).getD undef) z y.2.1 (fun i j a m=> ?_) (fun i j a m=> ?_) (fun i j q a m J=> ?_)
  ·obtain⟨u,k,_⟩:=p i j a m;refine⟨_,rfl,?_⟩;simp only[k,Qde];rw[jY,JH];simp[World.cell?,B,<-k]
  ·obtain⟨u,k,K,_⟩:=p i j a m;simpa[k]using K
  ·obtain⟨u,k,_,H⟩:=p i j a m;simpa[k]using H q J
theorem aiP (r:∀d m,S.mp d=some m->S.len d=0/\S.size d=0)(h:Hp S w0 N blk g al w){c:Nat}{d:D}{v:Value}{e:Nat->Prop}(k:blk c=some (.map d))(u:g c=some v)(s:∀b,dB v=some b->¬e b):
  bQ S e w d v:=by
 intro w' l;obtain⟨x,a,m,b,j,n,i,p,rfl,_,f,o⟩:=h.bY c _ k;rw[u]at a;injection a with a
 subst a;obtain⟨t,q⟩:=r _ _ i;exact .mp d m _ i t q ⟨p, .inr ⟨b,j,n,rfl,(l b (Nl f) (s b rfl)).trans f,o⟩⟩
theorem YB {a:Option (Bk D)}{d:D}(h:rwD a=some d):hot a=true:=by
 unfold rwD at h;split at h<;>first | rfl | cases h
theorem ae2 (j:ShOk S)(h:Hp S w0 N blk g al w){c:Nat}{d:D}{v:Value}{f:Nat->Prop}(a:rwD (blk c)=some d)(l:g c=some v)(o:∀b,f b->aJ N blk g b)(k:∀b,dB v=some b->¬f b):
  bQ S f w d v:=by
 unfold rwD at a;split at a
 ·rename_i e p i;injection a with a
  subst a;exact Fp h i l o k
 ·rename_i p i;injection a with a
  subst a;exact aiP (fun d m n=>⟨(j.xK d m n).1,(j.xK d m n).2.1⟩) h i l k
 ·cases a
def uH (g b:Nat->Option Value)(ids:List Nat)(a:Nat):Nat->Option Value:=fun l=>
 match g l with
 | some u=>some u
 | none=>if a<=l/\l < a+64 then b (ids.length+(l - a))else none
theorem yY {a:Nat->Option Value}:More g (uH g a ids fr):=fun l v b=>by simp[uH,b]
structure Back (blk blk':Nat->Option (Bk D))(tab:Nat->Option (Bk D))(ids jd:List Nat)(fr:Nat)(fz:Bool):Prop where
 b1:∀l∈ids,blk' l=(tab (gZ ids l)).map (Bk.ren (backTo ids fr))
 b2:∀j,j < 64->blk' (fr+j)=(tab (ids.length+j)).map (Bk.ren (backTo ids fr))
 b3:∀l∈jd,fz=true->(∃d,rwD (blk l)=some d/\blk' l=some (.ve d))\/(hot (blk l)=false/\blk' l=blk l)
 b4:∀l,l∉ids->(fz=true->l∉jd)->¬(fr<=l/\l < fr+64)->blk' l=blk l
theorem Hp.back (hS:ShOk S)(h:Hp S w0 N blk g al w){bY:List (Bk D)}{r:Nat->Option (Bk D)}{m:Nat->Option Value}{fz:Bool}(hfr:∀n,fr<=n->n < fr+64->¬al n)(G:ids.Nodup)(hg:wS blk ids=some bY)(hv:∀l∈jd,l∉ids)
  (hm:More (gc g ids) m) (F:Hp S ⟨w,Xc blk g ids⟩ (Nc N blk g ids jd) (r) m (fun _=>True) w') (V:Back blk blk' r ids jd fr fz)
  (aJw:∀i,(r i).isSome=true->i < ids.length+64) (hrefs:∀i a,r i=some a->∀l∈a.refs,(r l).isSome=true) (hfz:∀i a,r i=some a->a.lC=true->fz=true):
  Hp S w0 N blk' (uH g m ids fr) (fun n=>al n\/(fr<=n/\n < fr+64)) w'/\Keeps (aJ N blk g) w (aJ N blk' (uH g m ids fr)) w'/\
   (fz=true->∀b,aJ N blk' (uH g m ids fr) b->aJ (Nc N blk g ids jd) (r) m b)/\
   ∀i,(r i).isSome=true->∀u,m i=some u->uH g m ids fr (backTo ids fr i)=some u:=by
 obtain⟨hlen,hat⟩:=nN hg;have aIf:∀l∈ids,∃u,g l=some u:=fun l o=>by
  obtain⟨a,B,_⟩:=hat _ l (pI o);obtain⟨v,hv,_⟩:=h.bY l a B
  grind
 have glt:∀l u,g l=some u->¬(fr<=l/\l < fr+64):=fun l u o hle=>hfr l hle.1 hle.2 (h.al l u o)
 have aIe:∀l,fr<=l->l < fr+64->g l=none:=fun l o hl2=>by
  cases e:g l with
  | none=>rfl
  | some u=>grind
 have gb:∀i,(r i).isSome=true->∀u,m i=some u->uH g m ids fr (backTo ids fr i)=some u:=by
  intro i hi u R;unfold backTo;by_cases U:i < ids.length
  ·rw[Ai (by simp_all)];have o:ids[i]? =some (ids.getD i 0):=by grind
   obtain⟨u0,hu0⟩:=aIf _ (Qbu o);have:m i=some u0:=hm i u0 (by unfold gc;grind);rw[this]at R;injection R with R
   subst R;exact yY _ _ hu0
  ·rw[vF (by simp_all)];have:=aJw i hi;simp only[uH,aIe (fr+(i - ids.length)) ah ah]
   grind
 have y:∀l a,blk' l=some a->(∃i x,r i=some x/\a=x.ren (backTo ids fr)/\l=backTo ids fr i)\/
   (l∉ids/\¬(fr<=l/\l < fr+64)/\blk l=some a/\(hot (some a)=true->fz=true->l∉jd))\/(fz=true/\l∈jd/\∃d,rwD (blk l)=some d/\a= .ve d):=by
  intro l a o;by_cases s:l∈ids
  ·rw[V.b1 l s]at o;obtain⟨x,c,rfl⟩:=Qbw.1 o;refine .inl ⟨_,x,c,rfl,?_⟩;unfold backTo;have:=pI s;have U:=(Qa8.1 this).1;simp_all
  ·by_cases z:fr<=l/\l < fr+64
   ·obtain⟨j,rfl⟩:∃j,l=fr+j:=⟨l - fr,by omega⟩;rw[V.b2 j ah]at o;obtain⟨x,c,rfl⟩:=Qbw.1 o;refine .inl ⟨_,x,c,rfl,?_⟩;unfold backTo;rw[vF (by simp_all)];omega
   ·by_cases p:fz=true/\l∈jd
    ·rcases V.b3 l p.2 p.1 with⟨d,c,M⟩ | ⟨c,M⟩
     ·rw[M]at o;injection o with o
      exact .inr (.inr ⟨p.1,p.2,d,c,o.symm⟩)
     ·rw[M]at o;obtain⟨u,R,_⟩:=h.bY l a o;exact .inr (.inl ⟨s,glt l u R,o,fun t=>by rw[o]at c;rw[c]at t;cases t⟩)
    ·have q:=V.b4 l s (fun e hm=>p ⟨e,hm⟩) z
     grind
 have aal:∀(f:Nat->Nat) (a:Bk D),hot (some (a.ren f))=hot (some a):=fun f a=>by cases a<;>rfl
 have left:∀i a v b,r i=some a->hot (some a)=true->m i=some v->dB v=some b->b < w'.heap.size/\(w.heap.size<=b\/Xc blk g ids b):=by
  intro i a v b s z p E;exact F.mine qP p E
 have xm:∀b,Xc blk g ids b->aJ N blk g b:=fun b ⟨l,v,s,z,p,E⟩=> .inr ⟨l,v,s,p,E⟩
 have aIS:∀b,Xc blk g ids b->w0.Mine b:=fun b ⟨l,v,s,z,p,E⟩=>(h.mine s p E).2
 have aJE:∀l v b,hot (blk l)=true->l∉ids->g l=some v->dB v=some b->¬Xc blk g ids b:=by
  rintro l v b s z p E ⟨A,I,c,M,q3,q4⟩;have:=h.sep l A v I b s c p q3 E q4
  grind
 have H:∀b,b < w.heap.size->¬Xc blk g ids b->w'.heap[b]? =w.heap[b]? :=fun b s z=>F.below.block b s z
 have O:∀l,¬(fr<=l/\l < fr+64)->uH g m ids fr l=g l:=fun l o=>by
  unfold uH
  grind
 have aJU:∀l a,blk l=some a->∃v,g l=some v:=fun l a o=>by obtain⟨v,hv,_⟩:=h.bY l a o;grind
 have aak:∀i a,r i=some a->∃v,m i=some v/\uH g m ids fr (backTo ids fr i)=some v:=fun i a hi=>by
  obtain⟨v,hv,_⟩:=F.bY i a hi
  grind
 have hk:Keeps (aJ N blk g) w (aJ N blk' (uH g m ids fr)) w':=by
  refine⟨F.below.size,fun b U T=>⟨?_,H b U fun q=>T (xm b q)⟩⟩;rintro(J | ⟨l,v,s,z,p⟩)
  ·exact T (.inl J)
  ·obtain⟨a,B,t⟩:=iI s;rcases y l a B with⟨i,x,c,rfl,rfl⟩ | ⟨c,M,q3,_⟩ | ⟨_,_,d,_,rfl⟩
   ·grind
   ·rw[O l M]at z;exact T (.inr ⟨l,v,by grind,z,p⟩)
   ·simp[hot]at t
 have Y:fz=true->∀b,aJ N blk' (uH g m ids fr) b->aJ (Nc N blk g ids jd) (r) m b:=by
  rintro hz b (J | ⟨l,v,s,z,p⟩)
  ·exact .inl (.inl J)
  ·obtain⟨a,B,t⟩:=iI s;rcases y l a B with⟨i,x,c,rfl,rfl⟩ | ⟨c,M,q3,q4⟩ | ⟨_,_,d,_,rfl⟩
   ·obtain⟨v0,Z,Q⟩:=aak i x c;rw[z]at Q;injection Q with Q
    subst Q;rw[aal]at t;exact .inr ⟨i,v,by grind,Z,p⟩
   ·rw[O l M]at z;exact .inl (.inr ⟨l,v,by grind,c,q4 t hz,z,p⟩)
   ·simp[hot]at t
 refine⟨⟨⟨F.below.os.trans h.below.os,F.below.tape.trans h.below.tape,F.below.output.trans h.below.output,zW h.below.size F.below.size,fun k hk' hx=> ?_⟩,h.hN,fun l a o=> ?_,?_,?_,?_,h.gl.keep hk⟩,hk,Y,gb⟩
 ·refine(H k (Qbm hk' h.below.size) fun q=> ?_).trans (h.below.block k hk' hx);rcases aIS k q with q | q
  ·omega
  ·exact hx q
 ·rcases y l a o with⟨i,x,c,rfl,rfl⟩ | ⟨c,M,q3,q4⟩ | ⟨hz,hlv,d,q,rfl⟩
  ·obtain⟨v,Z,hok⟩:=F.bY i x c;refine⟨v,gb i (by rw[c];rfl) v Z,hok.ren (fun A hl' u R=>gb A (hrefs i x c A hl') u R) (fun hd=>Y (hfz i x c hd)) (fun t b hbv=> ?_)⟩;rcases(left i x v b c t Z hbv).2 with q | q
   ·exact .inl (zW h.below.size q)
   grind
  ·obtain⟨v,L,hok⟩:=h.bY l a q3;refine⟨v,by grind,hok.keep hk yY fun t b hbv=> ?_⟩;have K:hot (blk l)=true:=by grind
   exact H b (h.mine K L hbv).1 (aJE l v b K c L hbv)
  ·have hq:=YB q;obtain⟨bkq,hbq,_⟩:=iI hq;obtain⟨v,L,_⟩:=h.bY l _ hbq;refine⟨v,yY _ _ L,?_⟩;have hd0:bQ S (fun b=>aJ N blk g b/\dB v≠some b) w d v:=ae2 hS h q L (fun b V=>V.1) (fun b V hb'=>hb'.2 V);refine hd0.keep ⟨F.below.size,fun b U T=>⟨fun hb'=> ?_,H b U fun hx=> ?_⟩⟩
   ·
    have hmem:=Y hz b hb';by_cases hvb:dB v=some b
    ·rcases hmem with(J | ⟨A,I,X,r2,r3,r4,r5⟩) | ⟨i,I,X,r2,r3⟩
     ·exact h.adQ hq L hvb J
     ·have:=h.sep l A v I b hq X L r4 hvb r5
      grind
     ·obtain⟨a,B,t⟩:=iI X
      grind
    ·exact T ⟨by
      rcases hmem with(J | ⟨A,I,X,r2,r3,r4,r5⟩) | ⟨i,I,X,r2,r3⟩
      ·exact .inl J
      ·exact .inr ⟨A,I,X,r4,r5⟩
      ·obtain⟨a,B,t⟩:=iI X
       grind,hvb⟩
   grind
 ·intro l A v I b s z p E h5 h6;obtain⟨a,B,t⟩:=iI s;obtain⟨bk',hbk',W⟩:=iI z;rcases y l a B with⟨i,x,c,rfl,rfl⟩ | ⟨c,M,q3,q4⟩ | ⟨_,_,d,_,rfl⟩
  ·obtain⟨v0,Z,Q⟩:=aak i x c;rw[p]at Q;injection Q with Q
   subst Q;rw[aal]at t;rcases y A bk' hbk' with⟨i',aha,P,rfl,rfl⟩ | ⟨P,q2',q3',q4'⟩ | ⟨_,_,d,_,rfl⟩
   ·obtain⟨v0',e1',C⟩:=aak i' aha P;rw[E]at C;injection C with C
    subst C;rw[aal]at W;rw[F.sep i i' v I b qP qP Z e1' h5 h6]
   ·rw[O A q2']at E;have K:hot (blk A)=true:=by grind
    rcases(left i x v b c t Z h5).2 with q | q
    ·have:=(h.mine K E h6).1;omega
    grind
   ·simp[hot]at W
  ·rw[O l M]at p;have K:hot (blk l)=true:=by grind
   rcases y A bk' hbk' with⟨i',aha,P,rfl,rfl⟩ | ⟨P,q2',q3',q4'⟩ | ⟨_,_,d,_,rfl⟩
   ·obtain⟨v0',e1',C⟩:=aak i' aha P;rw[E]at C;injection C with C
    subst C;rw[aal]at W;rcases(left i' aha I b P W e1' h6).2 with q | q
    ·have:=(h.mine K p h5).1;omega
    grind
   ·rw[O A q2']at E;exact h.sep l A v I b K qP p E h5 h6
   ·simp[hot]at W
  ·simp[hot]at t
 ·intro n u G;unfold uH at G;split at G
  ·rename_i u' hu';exact .inl (h.al n u' hu')
  grind
 ·intro n u G;unfold uH at G;split at G
  ·rename_i u' hu';injection G with G;subst G;exact h.refs n _ hu'
  ·split at G
   ·exact F.refs _ _ G
   ·cases G
end
end Go.Vc
namespace Go.Vc
open Go.RowKit
section
variable {D:Type}{P:Program}{S:Sh D}{T:TypeId->Option Ty}{Γ:FuncId->Option (Ct D)}{M M' N:Nat->Prop}{w w':World}{w0:Bs}{g g':Nat->Option Value}{blk blk':Nat->Option (Bk D)}{al:Nat->Prop}
 {a:Act} {o:Oper} {K:Act->World->Prop} {Q:Exit->Act->World->Prop} {slot:Nat->Sl D} {out:Out D} {fr:Nat} {ids jd:List Nat}
theorem aEI {i n:Nat}(h:n<=i):Nat.blt i n=false:=by
 cases e:Nat.blt i n with
 | false=>rfl
 | true=>
  have:i < n:=Qce▸e;omega
theorem uJ {a:Type}{k:Nat}:∀{b:List (Nat×a)} {f:Nat->a},(∀v,(k,v)∉b)->iU f b k=f k
 | [],_,_=>rfl
 | (d,c)::r,f,h=>by
  show iU (upd f d c) r k=f k
  rw[uJ fun v e=>h v (Qb _ e)]
  grind [bI]
theorem OH {c:Type}{k:Nat}{v:c}:∀{d:List (Nat×c)} {f:Nat->c},(k,v)∈d->(∀a,(k,a)∈d->a=v)->iU f d k=v
 | [],_,h,_=>by simp at h
 | (l,j)::r,f,h,g=>by
  show iU (upd f l j) r k=v
  by_cases m:∃a,(k,a)∈r
  ·obtain⟨a,b⟩:=m;have:=g a (Qb _ b);subst this;exact OH b fun i e=>g i (Qb _ e)
  grind [uJ,upd_same]
theorem pK:∀{l:List (Nat×Bk D)} {i:Nat} {a:Bk D},jD l i=some a->(i,a)∈l
 | [],i,a,h=>by simp[jD]at h
 | (k,v)::r,i,a,h=>by
  unfold jD at h;split at h
  ·simp_all
  ·exact Qb _ (pK h)
theorem abZ:∀{l:List (Nat×Bk D)} {i:Nat} {a:Bk D},nodupB l=true->(i,a)∈l->jD l i=some a
 | [],i,a,_,h=>by simp at h
 | (k,v)::r,i,a,b,h=>by
  simp only[nodupB,iW,Qa5,Qd]at b;unfold jD;rcases IP.1 h with h | h
  ·simp_all
  ·have c:Nat.beq k i=false:=by
    have:=b.1 _ h;simp only[Qdc]at this;cases e:Nat.beq k i with
    | false=>rfl
    | true=>
     simp_all
   rw[c];exact abZ b.2 h
theorem Xy {l:List (Nat×Bk D)}{i:Nat}(h:i∈l.map (·.1)):(jD l i).isSome=true:=by
 induction l with
 | nil=>simp at h
 | cons p r a=>
  obtain⟨k,v⟩:=p;unfold jD;split
  ·rfl
  ·rename_i b;simp only[MQ,IP]at h;rcases h with rfl | h
   ·simp at b
   ·exact a h
theorem EH {k:Nat}:∀{l:List (Nat×Bk D)},Ov k l=true->∀i a,(i,a)∈l->i < k+64
 | [],_,i,a,h=>by simp at h
 | (j,v)::r,b,i,a,h=>by
  simp only[Ov,iW]at b;rcases IP.1 h with h | h
  ·simp_all
  ·exact EH b.2 i a h
theorem d_.ren {f:Nat->Nat}:∀{a:List (Sl D)} {b:List Value},d_ S M w g a b->(∀l∈a.flatMap Sl.refs,∀u,g l=some u->g' (f l)=some u)->d_ S M w g' (a.map (Sl.ren f)) b
 | [],[],_,_=>trivial
 | x::a,v::b,h,c=>⟨h.1.ren (fun l hl=>c l qcl) (fun _ _ d=>d),d_.ren h.2 (fun l hl=>c l qP)⟩
theorem Lf.OM {f h:Nat->Nat}{x:Lf D}(b:∀l∈x.refs,h (f l)=l):(x.ren f).ren h=x:=by
 cases x with
 | ptr l o=>simp only[Lf.ren];rw[b l qb6]
 | own l=>simp only[Lf.ren];rw[b l qb6]
 | opt l i j d=>simp only[Lf.ren];rw[b l qb6]
 | part l i j d f=>simp only[Lf.ren];rw[b l qb6]
 | fn g a=>
  simp only[Lf.ren,Qcb];have:a.map (h∘f)=a:=by
   have:=Qbq (l:=a) (f:=h∘f) (g:=id) fun l c=>b l c
   simp_all
  rw[this]
 | _=>rfl
theorem Bk.OM {f h:Nat->Nat}{b:Bk D}(i:∀l∈b.refs,h (f l)=l):(b.ren f).ren h=b:=by
 cases b with
 | cells cs=>
  simp only[Bk.ren,Qcb];have:cs.map (Lf.ren h∘Lf.ren f)=cs:=by
   have:=Qbq (l:=cs) (f:=Lf.ren h∘Lf.ren f) (g:=id) fun x a=>Lf.OM fun l c=>i l (Qa1.2 ⟨x,a,c⟩)
   simp_all
  rw[this]
 | row e d=>rfl
 | ve d=>rfl
 | iter s p=>rfl
 | map j=>rfl
 | tc t cs=>
  simp only[Bk.ren,Qcb];have:cs.map (Lf.ren h∘Lf.ren f)=cs:=by
   have:=Qbq (l:=cs) (f:=Lf.ren h∘Lf.ren f) (g:=id) fun x a=>Lf.OM fun l c=>i l (Qa1.2 ⟨x,a,c⟩)
   simp_all
  rw[this]
theorem apl {l:Nat}(h:l∈ids):backTo ids fr (gZ ids l)=l:=by
 unfold backTo;have:=pI h;have a:=(Qa8.1 this).1;simp_all
theorem tK {f:FuncId}{ct:Ct D}{args:List (Sl D)}{G:List Value}(hS:ShOk S)(hok:CtOk P S f ct)(h:Hp S w0 N blk g al w)(hfr:∀n,fr<=n->n < fr+64->¬al n)
  (Z:∀ids z,wS blk ids=some z->(∀l∈jd,l∉ids)->d_ S (aJ (Nc N blk g ids jd) (jC (z.map (Bk.ren (gZ ids)))) (gc g ids)) w g args G)
  (hvl:∀l∈jd,∃u,g l=some u) (hvr:∀l∈jd,(∃d,rwD (blk l)=some d)\/hot (blk l)=false\/l∈args.flatMap Sl.refs) (k:IX ct blk fr args jd=some out) (hp:kF out.pre):
  Calls P f G.toArray w fun e Y=>∃v g',e= .returned v/\More g g'/\Keeps (aJ N blk g) w (aJ N (iU blk out.blks) g') Y/\Hp S w0 N (iU blk out.blks) g' (fun n=>al n\/(fr<=n/\n < fr+64)) Y/\
   out.val.Rel S (aJ N (iU blk out.blks) g') Y g' v:=by
 unfold IX at k;generalize aIp:reach blk 3 (mi [] (args.flatMap Sl.refs))=ids at k;dsimp only at k;have hnd:ids.Nodup:=by grind [nV,A7]
 split at k
 ·cases k
 ·rename_i z J;split at k
  ·rename_i hc;simp only[iW,Qa5,Qd]at hc;obtain⟨⟨c1,X⟩,c3⟩:=hc;have c1:=pM c1;have X:∀c∈z,∀l∈c.refs,l∈ids:=fun c s l o=>pM X l (Qa1.2 ⟨c,s,o⟩)
   have hv:∀l∈jd,l∉ids:=fun l o T=>c3 l o (fB.2 T)
   split at k
   ·rename_i p r a b hct;split at k
    ·rename_i hq;simp only[iW]at hq;obtain⟨⟨⟨⟨⟨k1,k2⟩,k3⟩,k4⟩,k5⟩,k6⟩:=hq;have k6:∀i∈b,i < ids.length/\i∉a.map (·.1):=fun i B=>by
      have:=Qa3.1 k6 i B;simp only[iW,Qa5]at this;refine⟨by simp_all,fun T=> ?_⟩;rw[fB.2 T]at this;simp at this
     have hlen:(z.map (Bk.ren (gZ ids))).length=ids.length:=by rw[Na];exact(nN J).1
     have Q:∀i,i∉b->yC a b (z.map (Bk.ren (gZ ids))) i=jD a i:=fun i B=>by
      unfold yC
      grind [fB]
     have V:∀i,i∈b->yC a b (z.map (Bk.ren (gZ ids))) i=(z.map (Bk.ren (gZ ids)))[i]? :=fun i B=>by
      unfold yC;have:jD a i=none:=by
       cases H:jD a i with
       | none=>rfl
       | some c=>exact absurd (Qbf.2 ⟨_,pK H,rfl⟩) (k6 i B).2
      rw[this,fB.2 B];rfl
     have M:∀i,i∈a.map (·.1)++b->(yC a b (z.map (Bk.ren (gZ ids))) i).isSome=true:=fun i B=>by
      grind [Xy]
     injection k with k
     have hpre:kF p:=by grind
     have o:=h.lend hnd J X hv (jd:=jd);have hrel:=(Z ids z J hv).ren (g':=gc g ids) (f:=gZ ids) (fun l o u W=>by rw[X4 (c1 l o)];exact W);refine(hok.calls _ _ _ w G _ _ p r a b o hrel hct hpre).mono ?_;rintro e Y ⟨v,gc',rfl,T,hc',hr⟩;have glt:∀l u,g l=some u->¬(fr<=l/\l < fr+64):=fun l u o hle=>hfr l hle.1 hle.2 (h.al l u o)
     have blt:∀l c,blk l=some c->¬(fr<=l/\l < fr+64):=fun l c o=>by obtain⟨u,W,_⟩:=h.bY l c o;grind
     have aIy:∀l∈ids,¬(fr<=l/\l < fr+64):=fun l o=>by
      obtain⟨c,s,_⟩:=(nN J).2 _ l (pI o)
      grind
     let F:Bool:=r.lC || a.any (fun q=>q.2.lC) || b.any (fun i=>aod (z.map (Bk.ren (gZ ids))) i)
     have inA:∀l x,(l,x)∈((ids.filter fun l=> !ql (gZ ids l) b).map fun l=>(l,(jD a (gZ ids l)).map (Bk.ren (backTo ids fr))))->l∈ids/\gZ ids l∉b/\x=(jD a (gZ ids l)).map (Bk.ren (backTo ids fr)):=by
      grind [fB]
     have inB:∀l x,(l,x)∈((a.filter fun q=> !Nat.blt q.1 ids.length).map fun q=>(backTo ids fr q.1,some (q.2.ren (backTo ids fr))))->∃i c,(i,c)∈a/\ids.length<=i/\i < ids.length+64/\l=fr+(i - ids.length)/\x=some (c.ren (backTo ids fr)):=by
      intro l x m;obtain⟨⟨i,c⟩,hq,he⟩:=Qbf.1 m;obtain⟨U,L⟩:=Qby.1 hq;injection he with e1 e2
      have L:¬i < ids.length:=fun hlt=>by
       rw[show Nat.blt i ids.length=true from Qce▸hlt]at L;simp at L
      refine⟨i,c,U,by omega,EH k1 i c U,?_,e2.symm⟩;rw[<-e1];simp only[backTo]
      grind
     have inC:∀l x,(l,x)∈(if F then jd.filterMap (jQ blk)else([]:List (Nat×Option (Bk D))))->F=true/\l∈jd/\∃d,rwD (blk l)=some d/\x=some (.ve d):=by
      intro l x m;by_cases hz:F=true
      ·rw[Ai hz]at m;obtain⟨l',hl',he⟩:=Qc9.1 m;unfold jQ at he
       grind
      grind
     have R:out.blks=((ids.filter fun l=> !ql (gZ ids l) b).map fun l=>(l,(jD a (gZ ids l)).map (Bk.ren (backTo ids fr))))++(a.filter fun q=> !Nat.blt q.1 ids.length).map (fun q=>(backTo ids fr q.1,some (q.2.ren (backTo ids fr))))++
      (if F then jd.filterMap (jQ blk)else[]):=by
      rw[<-k]
     have t:∀l x,(l,x)∈out.blks->(l∈ids/\gZ ids l∉b/\x=(jD a (gZ ids l)).map (Bk.ren (backTo ids fr)))\/(∃i c,(i,c)∈a/\ids.length<=i/\i < ids.length+64/\l=fr+(i - ids.length)/\x=some (c.ren (backTo ids fr)))\/(F=true/\l∈jd/\∃d,rwD (blk l)=some d/\x=some (.ve d)):=by
      intro l x m;rw[R]at m;rcases xN.1 m with m | m
      ·rcases xN.1 m with m | m
       ·grind
       ·exact .inr (.inl (inB l x m))
      grind
     have hB:Back blk (iU blk out.blks) (yC a b (z.map (Bk.ren (gZ ids)))) ids jd fr F:=by
      refine⟨fun l o=> ?_,fun j hj=> ?_,fun l o hz=> ?_,fun l h1 h2 h3=> ?_⟩
      ·by_cases y:gZ ids l∈b
       ·obtain⟨c,C,E⟩:=(nN J).2 _ l (pI o);rw[V _ y,Qb5,E];simp only[Qbh];rw[Bk.OM fun r hr=>apl (X c (Qbu E) r hr),<-C];refine uJ fun x m=> ?_;rcases t l x m with⟨_,q,_⟩ | ⟨i,c,C,E,I,K,_⟩ | ⟨_,q,_⟩
        ·exact q y
        ·exact absurd (show fr<=l/\l < fr+64 by omega) (aIy l o)
        grind
       rw[Q _ y];refine OH (by
        grind [fB]) fun x m=> ?_
       rcases t l x m with⟨_,_,q⟩ | ⟨i,c,C,E,I,K,_⟩ | ⟨_,q,_⟩
       ·exact q
       ·exact absurd (show fr<=l/\l < fr+64 by omega) (aIy l o)
       grind
      ·rw[Q _ fun y=>by grind];cases H:jD a (ids.length+j)with
       | none=>
        rw[uJ]
        ·cases hb:blk (fr+j)with
         | none=>rfl
         | some c=>grind
        ·intro x m;rcases t _ x m with⟨q,_⟩ | ⟨i,c,C,E,I,K,_⟩ | ⟨_,_,d,q,_⟩
         ·grind
         ·grind
         grind
       | some c=>
        refine OH (by
         rw[R];refine Qcc _ (Qb0 _ (Qbf.2 ⟨(ids.length+j,c),Qby.2 ⟨pK H,by rw[aEI (Nat.le_add_right _ _)];rfl⟩,?_⟩));simp only[backTo,Qbh];rw[vF (by simp[Qce])];congr 1;omega) fun x m=> ?_
        rcases t _ x m with⟨q,_⟩ | ⟨i,O,C,E,I,K,q5⟩ | ⟨_,_,d,q,_⟩
        ·grind
        ·have:i=ids.length+j:=by omega
         subst this;rw[abZ k2 C]at H
         grind
        grind
      ·by_cases A:∃d,rwD (blk l)=some d
       ·obtain⟨d,A⟩:=A;obtain⟨bkr,hbr,_⟩:=iI (YB A);refine .inl ⟨d,A,OH (by
         rw[R,Ai hz];exact Qb0 _ (Qc9.2 ⟨l,o,by unfold jQ;rw[A]⟩)) fun x m=> ?_⟩
        rcases t _ x m with⟨q,_⟩ | ⟨i,O,C,E,I,K,q5⟩ | ⟨_,_,d',q,q'⟩
        ·grind
        ·grind
        grind
       ·have hnot:hot (blk l)=false:=by
         grind
        by_cases hfl:fr<=l/\l < fr+64
        ·grind
        ·refine .inr ⟨hnot,uJ fun x m=> ?_⟩;rcases t _ x m with⟨q,_⟩ | ⟨i,O,C,E,I,K,q5⟩ | ⟨_,_,d',q,q'⟩
         ·exact hv l o q
         ·omega
         grind
      ·refine uJ fun x m=> ?_;rcases t _ x m with⟨q,_⟩ | ⟨i,O,C,E,I,K,q5⟩ | ⟨hz,q,_⟩
       ·exact h1 q
       ·omega
       grind
     obtain⟨g1,g2,g3,g4⟩:=h.back hS hfr hnd J hv T hc' hB (fun i B=>by
       by_cases y:i∈b
       ·grind
       rw[Q i y]at B;obtain⟨c,s⟩:=Qbi.1 B;exact EH k1 i c (pK s))
      (fun i c s l o=>by
       by_cases y:i∈b
       ·rw[V i y]at s;exact M l (pM k5 l (Qa1.2 ⟨i,y,by unfold aqz;grind⟩))
       ·rw[Q i y]at s;exact M l (pM k3 l (Qa1.2 ⟨(i,c),pK s,o⟩)))
      (fun i c s hd=>by
       simp only[F,Qbg,Qcf];by_cases y:i∈b
       ·rw[V i y]at s;exact .inr ⟨i,y,by unfold aod;grind⟩
       ·rw[Q i y]at s;exact .inl (.inr ⟨(i,c),pK s,hd⟩))
     refine⟨v,_,rfl,yY,g2,g1,?_⟩;have:out.val=r.ren (backTo ids fr):=by rw[<-k]
     rw[this];exact hr.ren (fun l o u W=>g4 l (M l (pM k4 l o)) u W) (fun hd=>g3 (by simp[F,hd]))
    ·cases k
   ·cases k
  ·cases k
end
end Go.Vc

/- Own engine: Vdr, Vds, Vdg, Vdi, Vdj. -/
import Derived.Test.YtebmficbjhcohaaGreatDoorEng2
import Derived.Lib.Overlaps
import Derived.Lib.AppendZerosOnto
set_option linter.unusedVariables false
set_option linter.unusedSimpArgs false
namespace Go.Vc
open Go.RowKit
section
variable {D:Type}{P:Program}{S:Sh D}{T:TypeId->Option Ty}{M N:Nat->Prop}{w w':World}{w0:Bs}{g:Nat->Option Value}{blk:Nat->Option (Bk D)}{al:Nat->Prop}
 {a:Act} {o:Oper} {K:Act->World->Prop} {Q:Exit->Act->World->Prop} {slot:Nat->Sl D} {out:Out D} {fr:Nat}
theorem EG (q:iL S){d g:D}{c:Option Addr}{n a l h:Nat}(P:dD S M w d (.slice c n a))(y:S.sub d l h=some g)(L:l<=h)(H:h<=S.len d):dD S M w g (sliced c l h a (S.size d)):=by
 obtain⟨k,I,z⟩:=q.sub _ _ _ _ y L H;intro w' E;have t:=P w' E;generalize u:Value.slice c n a=v at t;cases t with
 | mp d m v X R W h=>rcases h.2 with⟨e,_⟩ | ⟨_,_,_,e,_⟩<;>(rw[<-u]at e;cases e)
 | mk d Q V J U K C f r o=>
  injection u with G T N
  subst G N;show BZ S w' g (.slice (if a=l then c else c.map (·.add (l*S.size d))) (h - l) (a - l))
  rw[<-I];refine BZ.mk g (q.Et _ _ _ _ y).2 _ (a - l) (fun i j=>U (l+i) j) au au (fun i j s b=> ?_) (fun i j s b=> ?_) (fun i j x s b B=> ?_)
  ·rw[k]at b;obtain⟨F,p,O⟩:=f (l+i) j au b;have A:¬a=l:=by omega
   refine⟨F.add (l*S.size d),by rw[lW A,p];rfl,?_⟩;rw[add_add',k,<-O,Qcj];congr 2;omega
  ·rw[k]at b;rw[z i j au];exact r (l+i) j au b
  ·rw[k]at b;rw[z i j au]at B;exact o (l+i) j x au b B
theorem Qk {n:Nat}{c:Option Operand}{l:Int}(d:∀x:Operand,(aB slot x).Rel S M w g (a.eval x))(h:bnd n (c.map (aB slot))=some l):(c=none/\l=n)\/∃x k,c=some x/\a.eval x= .int k l:=by
 cases c with
 | none=>simp only[Qb7,bnd,Nj]at h;exact .inl ⟨rfl,h.symm⟩
 | some x=>
  simp only[H6]at h;unfold bnd at h;split at h
  ·rename_i b;cases b
  ·rename_i k i b;injection b with b
   injection h with h
   subst h;have:=d x;rw[b]at this;exact .inr ⟨x,k,rfl,this⟩
  ·cases h
theorem aka (r:iL S){d f:D}{b:Option Addr}{n l h:Nat}(O:dD S M w d (.slice b n l))(z:S.sub d 0 h=some f)(I:h<=S.len d)(o:S.len f=h - 0):∃a,sliced b 0 h h (S.size d)= .slice a (S.len f) (S.len f)/\dD S M w f (sliced b 0 h h (S.size d)):=by
 obtain⟨k,T,A⟩:=r.sub _ _ _ _ z (vP _) I;refine⟨if h=0 then b else b.map (·.add (0*S.size d)),by rw[o];rfl,?_⟩;intro w' F;have u:=O w' F;generalize y:Value.slice b n l=v at u;cases u with
 | mp d m v W o V h=>rcases h.2 with⟨e,_⟩ | ⟨_,_,_,e,_⟩<;>(rw[<-y]at e;cases e)
 | mk d P R J U K E g s p=>
  injection y with H Q L
  subst H L;show BZ S w' f (.slice (if h=0 then b else b.map (·.add (0*S.size d))) (h - 0) (h - 0))
  rw[<-o];refine BZ.mk f (r.Et _ _ _ _ z).2 _ (S.len f) (fun i j=>U (0+i) j) (oC _) au (fun i j t c=> ?_) (fun i j t c=> ?_) (fun i j x t c C=> ?_)
  ·rw[k]at c;obtain⟨G,q,N⟩:=g (0+i) j au c;have B:¬h=0:=by omega
   refine⟨G.add (0*S.size d),by rw[lW B,q];rfl,?_⟩;rw[add_add',k,<-N,Qcj];congr 2;omega
  ·rw[k]at c;rw[A i j au];exact s (0+i) j au c
  ·rw[k]at c;rw[A i j au]at C;exact p (0+i) j x au c C
theorem JB {t e:TypeId}{x:Operand}{q p:Option Operand}{u s n cap:Nat}{m:Option Addr}{l c:Int}(D:o.op= .slice t x q p none)(k:P.underlying t=some (.slice e))(d:(sizeOf e).run P w= .ok u w)(F:a.eval x= .slice m n cap)(G:n<=cap)
  (y:∀x:Operand,(aB slot x).Rel S (aV N blk g) w g (a.eval x)) (C:bnd 0 (q.map (aB slot))=some l) (A:bnd n (p.map (aB slot))=some c) (h:u=s) (M:0<=l) (J:l<=c) (L:c<=n):
  (execOp a.eval o).run P w= .ok (.value (sliced m l.toNat c.toNat cap s)) w:=by
 have b:P.elem t=e:=by simp[Program.elem,k]
 have f:P.underlying t=some (.slice (P.elem t)):=by rw[b];exact k
 have E:(execOp a.eval o).run P w=((Instr.slice t (.slice m (n) cap) (q.map a.eval) (p.map a.eval) none).run P w).andThen fun v w=> .ok (.value v) w:=by
  simp[execOp,D,F,run_sliceAt_slice w t _ _ _ _ f]
 rw[E];rcases Qk y C with⟨rfl,I⟩ | ⟨O,B,rfl,j⟩<;>rcases Qk y A with⟨rfl,H⟩ | ⟨K,z,rfl,i⟩
 ·simp only[Qb7];rw[run_slice_all w t _ _ _ f,b,d];have:l.toNat=0:=by omega
  have r:c.toNat=n:=by omega
  rw[this,r,<-h];rfl
 ·simp only[Qb7,H6,i];rw[run_slice_h w t _ _ _ f z c au au,b,d];have:l.toNat=0:=by omega
  rw[this,<-h];rfl
 ·simp only[Qb7,H6,j];rw[run_slice_l w t _ _ _ f B l au au,b,d];have r:c.toNat=n:=by omega
  rw[r,<-h];rfl
 ·simp only[H6,j,i];rw[run_slice_lh w t _ _ _ f B z l c au au au,b,d,<-h];rfl
theorem aek {t:TypeId}{x:Operand}{W V:Option Operand}(hS:iL S)(I:o.op= .slice t x W V none)(p:∀t J,T t=some J->fB P t J)(h:Hp S w0 N blk g al w)
  (y:∀x:Operand,(aB slot x).Rel S (aV N blk g) w g (a.eval x)) (c:LC T S blk t (aB slot x) (W.map (aB slot)) (V.map (aB slot))=some out) (hp:lY out.pre) (L:Post S w0 N blk g al w fr out o.dst a K):o.wp P a w K Q:=by
 have f:=y x;unfold LC at c;split at c
 ·cases c
 ·rename_i J G;split at c
  ·cases c
  ·rename_i l H;split at c
   ·rename_i s r;rw[r]at f;simp only[Sl.Rel,Sv.Rel,Lf.Rel]at f;obtain⟨f,B⟩:=f;split at c
    ·rename_i Z;obtain⟨d,z,hkd⟩:=ni (p _ _ G);have Z:J.kind=3:=by simpa using Z
     rw[Z]at hkd;have z:P.underlying t=some .string:=by cases d<;>simp_all [kindOf]
     split at c
     ·rename_i j k;injection c with c
      subst c;obtain⟨D,A,C⟩:=hp;have m:(ByteArray.mk s.toArray).size=s.length:=by show s.toArray.size=_;simp
      have aKh:(ByteArray.mk s.toArray).extract l.toNat j.toNat=⟨((s.take j.toNat).drop l.toNat).toArray⟩:=by
       apply ByteArray.ext;rw[ByteArray.data_extract];apply H5.1;simp[Qdb,List.drop_take]
      refine bf (v:= .string ⟨((s.take j.toNat).drop l.toNat).toArray⟩) ?_ h L rfl ⟨rfl,by rw[Qbe,zC];omega⟩;rw[<-aKh];have e1:(execOp a.eval o).run P w=((Instr.slice t (.string ⟨s.toArray⟩) (W.map a.eval) (V.map a.eval) none).run P w).andThen fun v w=> .ok (.value v) w:=by
       simp[execOp,I,f,run_sliceAt_string w t _ _ _ _ z]
      rw[e1];rcases Qk y H with⟨rfl,hl0⟩ | ⟨xl,kl,rfl,B⟩<;>rcases Qk y k with⟨rfl,hh0⟩ | ⟨xh,kh,rfl,O⟩
      ·simp only[Qb7];rw[run_slice_string_all w t _ z];have:l.toNat=0:=by omega
       have Y:j.toNat=(ByteArray.mk s.toArray).size:=by omega
       rw[this,Y];rfl
      ·simp only[Qb7,H6,O];rw[run_slice_string_h w t _ z kh j au au];have:l.toNat=0:=by omega
       rw[this];rfl
      ·simp only[Qb7,H6,B];rw[run_slice_string_l w t _ z kl l au au];have Y:j.toNat=(ByteArray.mk s.toArray).size:=by omega
       rw[Y];rfl
      ·simp only[H6,B,O];rw[run_slice_string w t _ kl kh l j z au au au];rfl
     ·cases c
    ·cases c
   ·rename_i d r;rw[r]at f;split at c
    ·cases c
    ·rename_i e E;split at c
     ·cases c
     ·rename_i te F;have u:=kG (p _ _ G) E;have m:=kU (p _ _ F) w;split at c
      ·rename_i hc;simp only[iT]at hc;have h1:=Qa hc.1;split at c
       ·rename_i j k;split at c
        ·rename_i d' U;injection c with c
         subst c;obtain⟨D,A,C⟩:=hp;have f:dD S (aV N blk g) w d (a.eval x):=f;obtain⟨av,cap,hv,hcap⟩:=dD.slice' f (hS.Et _ _ _ _ U).1;rw[hv]at f;have hres:=EG hS f U au au;refine bf (v:=sliced av l.toNat j.toNat cap (S.size d)) ?_ h L rfl hres;exact JB I u m hv hcap y H k h1 D A C
        ·cases c
       ·cases c
      ·cases c
   ·rename_i q r;rw[r]at f;have f:g q=some (a.eval x):=f;split at c
    ·cases c
    ·rename_i e E;split at c
     ·cases c
     ·rename_i te F;have u:=kG (p _ _ G) E;have m:=kU (p _ _ F) w;split at c
      ·rename_i e' d hb;split at c
       ·rename_i j k;injection c with c
        subst c;obtain⟨D,A,C⟩:=hp;obtain⟨v,i,_,xs,⟨_,X⟩,_⟩:=h.dn q _ hb;rw[f]at i;injection i with i
        rcases X with⟨h0,R⟩ | ⟨b,cap',cur,M,_,_,hnc,_⟩
        ·exact bf (v:=_) (JB (n:=S.len d) (cap:=0) I u m (by rw[i,h0,R]) au y H k rfl D A C) h L rfl ⟨none,S.len d,0,by rw[f,i,h0,R],rfl,by omega,by omega,rfl⟩
        ·exact bf (v:=_) (JB (n:=S.len d) I u m (by rw[i,M]) hnc y H k rfl D A C) h L rfl ⟨_,S.len d,_,by rw[f,i,M],rfl,by omega,by omega,rfl⟩
       ·cases c
      ·cases c
   ·cases c
theorem Hp.aiC (h:Hp S w0 N blk g al w){l:Nat}{q bk':Bk D}{v:Value}(r:blk l=some q)(u:hot (some q)=true)(k:hot (some bk')=true)(x:g l=some v)
  (m:xC S (aV N blk g) w g w0 bk' v):Hp S w0 N (upd blk l (some bk')) g al w/\Keeps (aV N blk g) w (aV N (upd blk l (some bk')) g) w:=by
 have b:∀n,hot (upd blk l (some bk') n)=hot (blk n):=by
  intro n;by_cases f:n=l
  ·subst f;simp[upd_same,r,u,k]
  ·rw[bM _ _ _ _ f]
 have i:aV N (upd blk l (some bk')) g=aV N blk g:=by
  funext c;simp only[aV,b]
 refine⟨⟨h.below,h.hN,?_,?_,h.al,h.refs,by rw[i];exact h.gl⟩,i▸Keeps.refl _ _⟩
 ·intro n p e;rw[i];by_cases f:n=l
  ·subst f;rw[upd_same]at e;injection e with e
   subst e;exact⟨v,x,m⟩
  ·rw[bM _ _ _ _ f]at e;exact h.dn n p e
 ·intro a c s t d j o;rw[b]at j o;exact h.sep a c s t d j o
theorem aDC {v:Value}(h:v.oneCell'=true):one' v=true:=by cases v<;>simp_all [one',Value.oneCell']
theorem ahl {c:Call}{x y:Operand}(z:iL S)(ho:o.op= .call c)(hc:c.callee= .builtin .copy)(hx':c.args.toList=[x,y])(hTy:∀t ty,T t=some ty->fB P t ty)(h:Hp S w0 N blk g al w)
  (I:(aB slot x).Rel S (aV N blk g) w g (a.eval x)) (Y:(aB slot y).Rel S (aV N blk g) w g (a.eval y)) (f:XL T S blk c.argTypes (aB slot x) (aB slot y)=some out) (hK:Post S w0 N blk g al w fr out o.dst a K):o.wp P a w K Q:=by
 unfold XL at f;split at f
 ·rename_i t t' hts;split at f
  ·rename_i O;have O:=Qa O;subst O;split at f
   ·cases f
   ·rename_i ty hty;split at f
    ·cases f
    ·rename_i e hel;split at f
     ·cases f
     ·rename_i n hte;have hsl:=kG (hTy _ _ hty) hel;have hsz:=kU (hTy _ _ hte) w;split at f
      ·rename_i l d2 hex CY;rw[hex]at I;rw[CY]at Y;have I:g l=some (a.eval x):=I;have Y:dD S (aV N blk g) w d2 (a.eval y):=Y;split at f
       ·rename_i e' d1 hb;split at f
        ·rename_i hcc;simp only[iT]at hcc;obtain⟨c1,D,U,c4⟩:=hcc;have c1:=Qa c1;have D:=Qa D;have U:=Qa U;have c4:0 < n.size:=by simpa[CE]using c4
         subst c1;split at f
         ·rename_i dp dq hdp hdq;split at f
          ·rename_i d hd;injection f with f
           subst f;generalize hm:min (S.len d2) (S.len d1)=m at*;have hm1:m<=S.len d1:=by omega
           have R:m<=S.len d2:=by omega
           obtain⟨p1,p2,p3⟩:=z.sub _ _ _ _ hdp au R;obtain⟨q1,q2,q3⟩:=z.sub _ _ _ _ hdq hm1 (oC _);obtain⟨k1,k2,k3,k4,k5⟩:=z.cat _ _ _ hd;have E:S.size d=n.size:=by omega
           have r:S.len d=S.len d1:=by omega
           obtain⟨av,cap,p,hv2,hnl,hnc,hnz,hone,hnr⟩:=Jk (g:=g) z Y au;obtain⟨v,q,CS,xs,⟨hxl,hown⟩,X⟩:=h.dn l _ hb;rw[I]at q;injection q with q
           have G:(Builtin.firstCells n.size m (a.eval y)).run P w= .ok (p.take (m*n.size)).toArray w:=by
            rw[hv2];cases av with
            | none=>
             have h0:=hnz rfl;have:m=0:=by omega
             subst this;simp[Builtin.firstCells]
            | some ad=>
             have hlen:(p.take (m*n.size)).length=m*n.size:=by
              rw[zC,hnl,<-U];have:=Qba n.size R;omega
             have:=run_loadCells_list (P:=P) w ad (p.take (m*n.size)) (fun j u A=>hnc ad rfl j u (by
              rw[Zp]at A;split at A
              ·exact A
              ·cases A))
             rw[hlen]at this;exact this
           have avD:(Builtin.lenOf (a.eval y)).run P w= .ok (S.len d2) w:=by rw[hv2];simp[Builtin.lenOf]
           have F:c.args= #[x,y]:=by rw[<-H5];exact hx'
           have hat:c.argTypes= #[t,t]:=by rw[<-H5];exact hts
           rcases hown with⟨h0,hn0⟩ | ⟨b,V,s,hvv,_,hh,hnc',hcm,hcs,aa⟩
           ·
            have hm0:m=0:=by omega
            subst hm0;have C:a.eval x= .slice none 0 0:=by rw[q,h0]
            have B:(execOp a.eval o).run P w= .ok (.value (goInt 0)) w:=by
             simp[execOp,ho,resolve,hc,invoke,builtin,F,hat,Builtin.copy_,run_underlying hsl,C,avD,hsz,G]
            obtain⟨g1,g2⟩:=h.aiC (bk':= .row e d) hb rfl rfl I (by
             rw[q];refine⟨⟨CS.1,by rw[r];exact CS.2.1,by first | exact z.aoj au | (apply z.Wu;assumption)⟩,[],⟨by simp[r,hn0], .inl ⟨h0,by omega⟩⟩,fun i j Z A=>by omega⟩)
            exact kJ B (hK _ _ _ (More.refl _) g2 (g1.weaken fun _ h=> .inl h) rfl)
           ·have C:a.eval x= .slice (some ⟨b,0,none⟩) (S.len d1) V:=by rw[q,hvv]
            have H:(p.take (m*n.size)).length=m*n.size:=by
             rw[zC,hnl,<-U];have:=Qba n.size R;omega
            have hms:m*n.size<=S.len d1*n.size:=Qba _ hm1;have hcl:S.len d1*n.size<=s.toList.length:=by rw[WJ,hcs,<-D];exact Qba _ hnc'
            have hh':w.heap[b]? =some (.cells (s.toList).toArray e (0,0)):=by simpa using hh
            obtain⟨w',hrun,hb',hn,hs,q1',q2',q3'⟩:=lF (P:=P) b e (p.take (m*n.size)) w s.toList 0 0 hh' au (by
             rw[Rf];intro u M;exact aDC (hone u (List.mem_of_mem_take M)))
            have B:(execOp a.eval o).run P w= .ok (.value (goInt m)) w':=by
             have hmin:Nat.min (S.len d2) (S.len d1)=m:=hm;simp[execOp,ho,resolve,hc,invoke,builtin,F,hat,Builtin.copy_,run_underlying hsl,C,avD,hmin,hsz,G,hrun]
            have aJa:∀k,k < S.len d1*n.size->s.toList[k]? =xs[k]? :=fun k W=>by rw[<-aa,Zp,mV (by rw[<-D];exact W)]
            simp only[Pj,FQ,Qdu,Qdo,H]at hb';obtain⟨g1,g2⟩:=h.write (bk':= .row e d) hb rfl rfl I (by rw[C];rfl) q1' q2' q3' hs hn (fun W=>by
             rw[q];refine⟨⟨CS.1,by rw[r];exact CS.2.1,by first | exact z.aoj au | (apply z.Wu;assumption)⟩,(p.take (m*n.size)++s.toList.drop (m*n.size)).take (S.len d1*n.size),⟨?_, .inr ⟨b,V,(p.take (m*n.size)++s.toList.drop (m*n.size)).toArray,by rw[hvv,r],vP _,hb',by omega,hcm,?_,by rw[r,E]⟩⟩,fun i j Z A=> ?_⟩
             ·rw[r,E];rw[zC,qO,H,Qbe];omega
             ·rw[Qc2,qO,H,Qbe,E,D,<-hcs,<-D];have:=WJ (xs:=s);omega
             ·rw[E]at A⊢;rw[r]at Z;have J:=oQ Z A;rw[Zp,mV J];have hdt:=z.data d i j au au;by_cases him:i < m
              ·obtain⟨u,M,L⟩:=hnr i j au au;have hlm:=oQ him A;refine⟨u,?_,hdt,?_⟩
               ·rw[Qa6 au,Zp,mV hlm,U];exact M
               ·have e1:S.cell d i j=S.cell d2 i j:=by rw[k4 i j au,p3 i j au,FQ]
                rw[e1];exact L.keep W (More.refl _)
              ·obtain⟨u,M,_,L⟩:=X i j Z au;have hge:m*n.size<=i*n.size:=Qba _ au;refine⟨u,?_,hdt,?_⟩
               ·rw[Qay au,H,Qbj,show m*n.size+(i*n.size+j - m*n.size)=i*n.size+j by omega,aJa _ J,D];exact M
               ·have e1:S.cell d i j=S.cell d1 i j:=by
                 have e2:=k5 (i - m) j au;rw[show S.len dp+(i - m)=i by omega]at e2;rw[e2,q3 (i - m) j au,show m+(i - m)=i by omega]
                rw[e1];exact L.keep W (More.refl _))
            exact kJ B (hK _ _ _ (More.refl _) g2 (g1.weaken fun _ h=> .inl h) rfl)
          ·cases f
         ·cases f
        ·cases f
       ·cases f
      ·cases f
  ·cases f
 ·cases f
end
end Go.Vc
namespace Go.Vc
open Go.RowKit
section
variable {P:Program}{w w':World}
end
section
variable {D:Type}{P:Program}{S:Sh D}
end
end Go.Vc
namespace Go.Vc
open Go.RowKit
section
variable {D:Type}{P:Program}{S:Sh D}{T:TypeId->Option Ty}{Γ:FuncId->Option (Ct D)}{M M' N:Nat->Prop}{w w':World}{w0:Bs}{g g':Nat->Option Value}{blk:Nat->Option (Bk D)}{al:Nat->Prop}
 {a:Act} {o:Oper} {K:Act->World->Prop} {Q:Exit->Act->World->Prop} {slot:Nat->Sl D} {out:Out D} {fr:Nat} {ids jk:List Nat}
theorem gz {l:Nat}:∀{ids:List Nat},qK l ids=true ↔ l∈ids
 | []=>by simp[qK]
 | x::r=>by
  simp only[qK,Qbp,gz,CW];constructor
  ·rintro(h | h)
   ·exact .inl (Qa h).symm
   ·exact .inr h
  ·rintro(rfl | h)
   ·exact .inl oI
   ·exact .inr h
theorem pO:∀(r ids:List Nat),ids.Nodup->(lN ids r).Nodup
 | [],ids,h=>h
 | l::r,ids,h=>by
  unfold lN;refine pO r _ ?_;split
  ·exact h
  ·rename_i b;rw[List.nodup_append];refine⟨h,by simp,fun x c y a=> ?_⟩;simp at a;subst a;rintro rfl;exact b (gz.2 c)
theorem DV:∀(n:Nat) (ids:List Nat),ids.Nodup->(reach blk n ids).Nodup
 | 0,ids,h=>h
 | n+1,ids,h=>DV n _ (pO _ _ h)
theorem ry:∀{r:List Nat},allIn ids r=true->∀l∈r,l∈ids
 | [],_,l,a=>by simp at a
 | x::r,h,l,a=>by
  simp only[allIn,iT]at h;rcases CW.1 a with rfl | a
  ·exact gz.1 h.1
  ·exact ry h.2 l a
theorem oW:∀{ids:List Nat} {a:List (Bk D)},tX blk ids=some a->a.length=ids.length/\∀(i l:Nat),ids[i]? =some l->∃d,blk l=some d/\a[i]? =some d
 | [],a,h=>by simp[tX]at h;subst h;simp
 | x::r,a,h=>by
  unfold tX at h;split at h
  ·rename_i b j e c;injection h with h
   subst h;obtain⟨g,f⟩:=oW c;refine⟨by simp[g],fun i l hi=> ?_⟩;cases i with
   | zero=>simp at hi;subst hi;exact⟨b,e,rfl⟩
   | succ i=>exact f i l qct
  ·cases h
theorem qW:∀{ids:List Nat} {l:Nat},l∈ids->ids[iQ ids l]? =some l
 | [],l,h=>by simp at h
 | x::r,l,h=>by
  unfold iQ;split
  ·rename_i a;rw[Qa a];rfl
  ·rename_i a;have:l∈r:=by
    rcases CW.1 h with rfl | h
    ·simp at a
    ·exact h
   simpa using qW this
theorem Dp (b:ids.Nodup){i l:Nat}(h:ids[i]? =some l):iQ ids l=i:=by
 have d:l∈ids:=Qbl h;have a:=qW d;have f:=(Qa1.1 h).1;have g:=(Qa1.1 a).1;have e:=(Qa1.1 h).2;have c:=(Qa1.1 a).2;exact(List.getElem_inj b).1 (c.trans e.symm)
theorem aen {f:Nat->Nat}:∀{a:List Nat} {b:List Value},(∀l∈a,∀v,g l=some v->g' (f l)=some v)->a.map g=b.map some->(a.map f).map g'=b.map some
 | [],[],_,_=>rfl
 | c::a,v::b,d,h=>by
  simp only[H7,Qdn]at h⊢;exact⟨d c oI v h.1,aen (fun l hl=>d l qcl) h.2⟩
 | [],_::_,_,h=>by simp at h
 | _::_,[],_,h=>by simp at h
theorem Lf.Rel.ren {f:Nat->Nat}{x:Lf D}{v:Value}(h:x.Rel S M w g v)(r:∀l∈x.refs,∀u,g l=some u->g' (f l)=some u)(t:x.mX=true->∀b,M' b->M b):(x.ren f).Rel S M' w g' v:=by
 cases x with
 | ptr l o=>obtain⟨b,m,c⟩:=h;exact⟨b,r l qb7 _ m,c⟩
 | own l=>exact r l qb7 _ h
 | opt l i j z=>obtain⟨b,n,q,m,c⟩:=h;exact⟨b,n,q,r l qb7 _ m,c⟩
 | part l i j z f=>obtain⟨a,n,q,m,c⟩:=h;exact⟨a,n,q,r l qb7 _ m,c⟩
 | glb i=>exact h
 | O_ x=>exact h
 | xt e=>exact Xt.Rel.mono h (t rfl)
 | fn B A=>obtain⟨y,m,c⟩:=h;exact⟨y,m,aen r c⟩
 | dat d=>exact dD.mono h (t rfl)
 | elt d i j=>obtain⟨a,n,q,m,c⟩:=h;exact⟨a,n,q,m.mono (t rfl),c⟩
 | any=>trivial
 | unk p=>exact h
 | val x=>exact h
 | bool b=>exact h
 | int k n=>exact h
 | str s=>exact h
theorem aZ.ren {f:Nat->Nat}:∀{a:List (Lf D)} {c:List Value},aZ S M w g a c->(∀l∈a.flatMap Lf.refs,∀u,g l=some u->g' (f l)=some u)->(a.any Lf.mX=true->∀b,M' b->M b)->aZ S M' w g' (a.map (Lf.ren f)) c
 | [],[],_,_,_=>trivial
 | x::a,v::c,h,i,d=>by
  simp only[List.any_cons,Qbp]at d;exact⟨h.1.ren (fun l hl=>i l qcl) (fun e=>d (.inl e)),aZ.ren h.2 (fun l hl=>i l qc) (fun e=>d (.inr e))⟩
theorem Sv.Rel.ren {f:Nat->Nat}{x:Sv D}{v:Value}(h:x.Rel S M w g v)(c:∀l∈x.refs,∀u,g l=some u->g' (f l)=some u)(a:x.mX=true->∀b,M' b->M b):(x.ren f).Rel S M' w g' v:=by
 cases x with
 | lf x=>exact Lf.Rel.ren h c a
 | agg j=>obtain⟨d,i,e⟩:=h;exact⟨d,i,e.ren c a⟩
theorem iF.ren {f:Nat->Nat}:∀{a:List (Sv D)} {c:List Value},iF S M w g a c->(∀l∈a.flatMap Sv.refs,∀u,g l=some u->g' (f l)=some u)->(a.any Sv.mX=true->∀b,M' b->M b)->iF S M' w g' (a.map (Sv.ren f)) c
 | [],[],_,_,_=>trivial
 | x::a,v::c,h,i,d=>by
  simp only[List.any_cons,Qbp]at d;exact⟨h.1.ren (fun l hl=>i l qcl) (fun e=>d (.inl e)),iF.ren h.2 (fun l hl=>i l qc) (fun e=>d (.inr e))⟩
theorem Sl.Rel.ren {f:Nat->Nat}{x:Sl D}{v:Value}(h:x.Rel S M w g v)(c:∀l∈x.refs,∀u,g l=some u->g' (f l)=some u)(a:x.mX=true->∀b,M' b->M b):(x.ren f).Rel S M' w g' v:=by
 cases x with
 | one x=>exact Sv.Rel.ren h c a
 | sO j=>obtain⟨d,i,e⟩:=h;exact⟨d,i,e.ren c a⟩
theorem Iy {f:Nat->Nat}(x:Option (Bk D)):hot (x.map (Bk.ren f))=hot x:=by
 cases x with
 | none=>rfl
 | some a=>cases a<;>rfl
theorem TW {f:Nat->Nat}{x:Lf D}(h:x.jE=true):x.ren f=x:=by cases x<;>first | rfl | simp[Lf.jE]at h
theorem aea {x:Lf D}(h:x.jE=true):x.refs=[]:=by cases x<;>first | rfl | simp[Lf.jE]at h
theorem xC.ren {f:Nat->Nat}{B B':Bs}{c:Bk D}{v:Value}(h:xC S M w g B c v)(x:∀l∈c.refs,∀u,g l=some u->g' (f l)=some u)(r:c.mX=true->∀b,M' b->M b)
  (o:hot (some c)=true->∀b,eP v=some b->B'.Mine b):xC S M' w g' B' (c.ren f) v:=by
 cases c with
 | cells cs=>
  obtain⟨b,y,t,rfl,_,a,k⟩:=h;exact⟨b,y,t,rfl,o rfl b rfl,a,k.ren x r⟩
 | row e d=>
  obtain⟨C,J,z,K⟩:=h;refine⟨⟨o rfl,C.2⟩,J,z,fun i j F E=> ?_⟩;obtain⟨u,H,A,I⟩:=K i j F E;have:=I.ren (g':=g') (M':=M') (f:=f) (fun l q=>by rw[aea A]at q;simp at q) (fun _=>r rfl);rw[TW A]at this;exact⟨u,H,A,this⟩
 | uZ d=>exact dD.mono h (r rfl)
 | iter s p=>
  obtain⟨q,b,rfl,_,a⟩:=h;exact⟨q,b,rfl,o rfl b rfl,a⟩
 | map d=>
  obtain⟨m,b,G,n,C,x,rfl,_,a,k⟩:=h;exact⟨m,b,G,n,C,x,rfl,o rfl b rfl,a,k⟩
 | tc t cs=>
  obtain⟨b,y,rfl,_,a,k⟩:=h;exact⟨b,y,rfl,o rfl b rfl,a,k.ren x r⟩
def Nc (N:Nat->Prop)(a:Nat->Option (Bk D))(g:Nat->Option Value)(ids c:List Nat):Nat->Prop:=
 fun b=>N b\/∃l v,hot (a l)=true/\l∉ids/\l∉c/\g l=some v/\eP v=some b
def Xc (a:Nat->Option (Bk D))(g:Nat->Option Value)(ids:List Nat):Nat->Prop:=fun b=>∃l v,hot (a l)=true/\l∈ids/\g l=some v/\eP v=some b
def gc (g:Nat->Option Value)(ids:List Nat):Nat->Option Value:=fun i=>(ids[i]?).bind g
theorem aav {l:Nat}(h:l∈ids):gc g ids (iQ ids l)=g l:=by simp[gc,qW h]
theorem Hp.mine (h:Hp S w0 N blk g al w){l b:Nat}{v:Value}(f:hot (blk l)=true)(c:g l=some v)(d:eP v=some b):b < w.heap.size/\w0.Mine b:=by
 obtain⟨i,_,e,a⟩:=h.at f c;exact a.lt e d
theorem Hp.afj (h:Hp S w0 N blk g al w){l b:Nat}{v:Value}(f:hot (blk l)=true)(d:g l=some v)(e:eP v=some b):¬N b:=fun c=>by
 obtain⟨i,a⟩:=h.hN b c;rcases(h.mine f d e).2 with q | q
 ·omega
 ·exact a q
theorem Z9 {c:List (Bk D)}(m:tX blk ids=some c){f:Nat->Nat}{i:Nat}{j:Bk D}(h:jT (c.map (Bk.ren f)) i=some j):∃l a,ids[i]? =some l/\blk l=some a/\a∈c/\j=a.ren f:=by
 obtain⟨k,g⟩:=oW m;simp only[jT,Qbf,Qca]at h;obtain⟨a,d,rfl⟩:=h;have e:i < ids.length:=by rw[<-k];exact(Qa1.1 d).1
 obtain⟨o,n,b⟩:=g i ids[i] (Ph e);rw[d]at b;injection b with b
 subst b;exact⟨ids[i],a,Ph e,n,Qbl d,rfl⟩
theorem uu {p:List (Bk D)}(t:tX blk ids=some p){f:Nat->Nat}:∀b,aV (Nc N blk g ids jk) (jT (p.map (Bk.ren f))) (gc g ids) b->aV N blk g b/\(N b\/∃l v,hot (blk l)=true/\l∉jk/\g l=some v/\eP v=some b\/l∈ids/\hot (blk l)=true/\g l=some v/\eP v=some b):=by
 rintro b ((m | ⟨l,v,a,n,c,o,k⟩) | ⟨i,v,a,n,c⟩)
 ·exact⟨.inl m, .inl m⟩
 ·exact⟨.inr ⟨l,v,a,o,k⟩, .inr ⟨l,v, .inl ⟨a,c,o,k⟩⟩⟩
 ·obtain⟨u,j,s⟩:=jJ a;obtain⟨l,r,h,q,_,rfl⟩:=Z9 t j;have e:g l=some v:=by simpa[gc,h]using n
  have d:hot (blk l)=true:=by rw[q];have:=Iy (f:=f) (some r);simp only[H6]at this;rw[<-this];exact s
  exact⟨.inr ⟨l,v,d,e,c⟩, .inr ⟨l,v, .inr ⟨Qbl h,d,e,c⟩⟩⟩
theorem Hp.lend (h:Hp S w0 N blk g al w){r:List (Bk D)}(E:ids.Nodup)(m:tX blk ids=some r)(o:∀Q∈r,∀l∈Q.refs,l∈ids)(hv:∀l∈jk,l∉ids):
  Hp S ⟨w,Xc blk g ids⟩ (Nc N blk g ids jk) (jT (r.map (Bk.ren (iQ ids)))) (gc g ids) (· < (r.map (Bk.ren (iQ ids))).length) w:=by
 obtain⟨t,hat⟩:=oW m;refine⟨zx.refl ⟨w,Xc blk g ids⟩,?_,?_,?_,?_,?_,h.gl.mono fun b d=>(uu m b d).1⟩
 ·rintro b (d | ⟨l,v,q,J,M,p,B⟩)
  ·refine⟨h.mlt (.inl d),?_⟩;rintro⟨l,v,q,J,M,p⟩;exact h.afj q M p d
  ·refine⟨h.mlt (.inr ⟨l,v,q,p,B⟩),?_⟩;rintro⟨n,V,Z,q2,q3,Y⟩;have:=h.sep l n v V b q Z p q3 B Y;subst this;exact J q2
 ·intro i Q a;obtain⟨l,x,c,e,y,rfl⟩:=Z9 m a;obtain⟨v,s,I⟩:=h.dn l x e;refine⟨v,by simp[gc,c,s],I.ren (fun n k u R=> ?_) (fun _ b d=>(uu m b d).1) (fun U b d=> .inr ⟨l,v,by rw[e];exact U,Qbl c,s,d⟩)⟩;rw[aav (o _ y n k)];exact R
 ·intro i j X vj b a T F O H K;obtain⟨bki,G,L⟩:=jJ a;obtain⟨bkj,C,z⟩:=jJ T;obtain⟨l,x,c,e,_,rfl⟩:=Z9 m G;obtain⟨n,A,k,P,_,rfl⟩:=Z9 m C;have W:hot (blk l)=true:=by rw[e];have:=Iy (f:=iQ ids) (some x);simp only[H6]at this;rw[<-this];exact L
  have e2:hot (blk n)=true:=by rw[P];have:=Iy (f:=iQ ids) (some A);simp only[H6]at this;rw[<-this];exact z
  have:=h.sep l n X vj b W e2 (by simpa[gc,c]using F) (by simpa[gc,k]using O) H K;subst this;rw[<-Dp E c,<-Dp E k]
 ·intro i v a;simp only[gc]at a;cases c:ids[i]? with
  | none=>rw[c]at a;cases a
  | some l=>simp only[Qbn,t];exact(Qa1.1 c).1
 ·intro i v a;simp only[gc]at a;cases c:ids[i]? with
  | none=>rw[c]at a;cases a
  | some l=>rw[c]at a;exact h.refs l v a
end
end Go.Vc
namespace Go.Vc
open Go.RowKit
section
variable {D:Type}{P:Program}{S:Sh D}{T:TypeId->Option Ty}{Γ:FuncId->Option (Ct D)}{M M' N:Nat->Prop}{w w':World}{w0:Bs}{g g':Nat->Option Value}{blk blk':Nat->Option (Bk D)}{al:Nat->Prop}
 {a:Act} {o:Oper} {K:Act->World->Prop} {Q:Exit->Act->World->Prop} {slot:Nat->Sl D} {out:Out D} {fr:Nat} {ids jk:List Nat}
theorem IL (h:Hp S w0 N blk g al w){c:Nat}{e:TypeId}{d:D}{v:Value}{M':Nat->Prop}(M:blk c=some (.row e d))(Q:g c=some v)(K:∀b,M' b->aV N blk g b)(J:∀b,eP v=some b->¬M' b):
  dD S M' w d v:=by
 intro w' F;obtain⟨U,n,z,V,y,q⟩:=h.dn c _ M;rw[Q]at n;injection n with n
 subst n;rcases y.2 with⟨rfl,P⟩ | ⟨b,H,o,rfl,_,E,A,_,T,s⟩
 ·have:=BZ.mk (S:=S) (w:=w') d z.2.2 none 0 (fun _ _=> .bool false) au au (fun i j k _=>by omega) (fun i j k _=>by omega) (fun i j _ k _=>by omega);rwa [P]at this
 ·have C:w'.heap[b]? =some (.cells o e (0,0)):=(F b (vG E) (J b rfl)).trans E;have p:∀i j,i < S.len d->j < S.size d->∃u,o[i*S.size d+j]? =some u/\Lf.plain (S.cell d i j) u/\∀r,S.cell d i j= .dat r->BZ S w' r u:=by
   intro i j k m;obtain⟨u,a,t,L⟩:=q i j k m;have B:=oQ k m;have:o[i*S.size d+j]? =some u:=by
    rw[<-s,Zp,mV B]at a;simpa using a
   have G:(S.cell d i j).Rel S M' w g u:=by
    have:=L.ren (g':=g) (M':=M') (f:=fun x=>x) (fun l _ u a=>a) (fun _=>K);rw[TW t]at this;exact this
   exact⟨u,this,Gv t G F⟩
  refine BZ.mk (S:=S) (w:=w') d z.2.2 (some ⟨b,0,none⟩) H (fun i j=>(o[i*S.size d+j]?).getD undef) A z.2.1 (fun i j k m=> ?_) (fun i j k m=> ?_) (fun i j r k m I=> ?_)
  ·obtain⟨u,a,_⟩:=p i j k m;refine⟨_,rfl,?_⟩;simp only[a,Qcv];rw[lM,FQ];simp[World.cell?,C,<-a]
  ·obtain⟨u,a,O,_⟩:=p i j k m;simpa[a]using O
  ·obtain⟨u,a,_,R⟩:=p i j k m;simpa[a]using R r I
theorem ajq (k:∀d m,S.mp d=some m->S.len d=0/\S.size d=0)(h:Hp S w0 N blk g al w){c:Nat}{d:D}{v:Value}{i:Nat->Prop}(p:blk c=some (.map d))(u:g c=some v)(l:∀b,eP v=some b->¬i b):
  dD S i w d v:=by
 intro w' q;obtain⟨x,a,m,b,o,n,f,t,rfl,_,e,j⟩:=h.dn c _ p;rw[u]at a;injection a with a
 subst a;obtain⟨s,r⟩:=k _ _ f;exact .mp d m _ f s r ⟨t, .inr ⟨b,o,n,rfl,(q b (vG e) (l b rfl)).trans e,j⟩⟩
theorem J7 {a:Option (Bk D)}{d:D}(h:rwD a=some d):hot a=true:=by
 unfold rwD at h;split at h<;>first | rfl | cases h
theorem agJ (n:iL S)(h:Hp S w0 N blk g al w){c:Nat}{d:D}{v:Value}{i:Nat->Prop}(a:rwD (blk c)=some d)(k:g c=some v)(p:∀b,i b->aV N blk g b)(j:∀b,eP v=some b->¬i b):
  dD S i w d v:=by
 unfold rwD at a;split at a
 ·rename_i e o f;injection a with a
  subst a;exact IL h f k p j
 ·rename_i o f;injection a with a
  subst a;exact ajq (fun d m l=>⟨(n.xn d m l).1,(n.xn d m l).2.1⟩) h f k j
 ·cases a
def wW (g b:Nat->Option Value)(ids:List Nat)(a:Nat):Nat->Option Value:=fun l=>
 match g l with
 | some u=>some u
 | none=>if a<=l/\l < a+64 then b (ids.length+(l - a))else none
theorem BC {a:Nat->Option Value}:More g (wW g a ids fr):=fun l v b=>by simp[wW,b]
structure Back (blk blk':Nat->Option (Bk D))(tab:Nat->Option (Bk D))(ids jk:List Nat)(fr:Nat)(fz:Bool):Prop where
 b1:∀l∈ids,blk' l=(tab (iQ ids l)).map (Bk.ren (backTo ids fr))
 b2:∀j,j < 64->blk' (fr+j)=(tab (ids.length+j)).map (Bk.ren (backTo ids fr))
 b3:∀l∈jk,fz=true->(∃d,rwD (blk l)=some d/\blk' l=some (.uZ d))\/(hot (blk l)=false/\blk' l=blk l)
 b4:∀l,l∉ids->(fz=true->l∉jk)->¬(fr<=l/\l < fr+64)->blk' l=blk l
theorem Hp.back (hS:iL S)(h:Hp S w0 N blk g al w){dn:List (Bk D)}{x:Nat->Option (Bk D)}{o:Nat->Option Value}{fz:Bool}(hfr:∀n,fr<=n->n < fr+64->¬al n)(G:ids.Nodup)(hg:tX blk ids=some dn)(Y:∀l∈jk,l∉ids)
  (hm:More (gc g ids) o) (Q:Hp S ⟨w,Xc blk g ids⟩ (Nc N blk g ids jk) (x) o (fun _=>True) w') (hb:Back blk blk' x ids jk fr fz)
  (aKo:∀i,(x i).isSome=true->i < ids.length+64) (hrefs:∀i a,x i=some a->∀l∈a.refs,(x l).isSome=true) (hfz:∀i a,x i=some a->a.mX=true->fz=true):
  Hp S w0 N blk' (wW g o ids fr) (fun n=>al n\/(fr<=n/\n < fr+64)) w'/\Keeps (aV N blk g) w (aV N blk' (wW g o ids fr)) w'/\
   (fz=true->∀b,aV N blk' (wW g o ids fr) b->aV (Nc N blk g ids jk) (x) o b)/\
   ∀i,(x i).isSome=true->∀u,o i=some u->wW g o ids fr (backTo ids fr i)=some u:=by
 obtain⟨hlen,hat⟩:=oW hg;have aI4:∀l∈ids,∃u,g l=some u:=fun l m=>by
  obtain⟨a,A,_⟩:=hat _ l (qW m);obtain⟨v,Y,_⟩:=h.dn l a A;exact⟨v,Y⟩
 have glt:∀l u,g l=some u->¬(fr<=l/\l < fr+64):=fun l u m hle=>hfr l hle.1 hle.2 (h.al l u m)
 have aI3:∀l,fr<=l->l < fr+64->g l=none:=fun l m hl2=>by
  cases e:g l with
  | none=>rfl
  | some u=>exact absurd ⟨m,hl2⟩ (glt l u e)
 have gb:∀i,(x i).isSome=true->∀u,o i=some u->wW g o ids fr (backTo ids fr i)=some u:=by
  intro i hi u V;unfold backTo;by_cases hlt:i < ids.length
  ·rw[mV qb9];have m:ids[i]? =some (ids.getD i 0):=by simp[List.getD,hlt]
   obtain⟨u0,hu0⟩:=aI4 _ (Qbl m);have:o i=some u0:=hm i u0 (by unfold gc;rw[m];exact hu0);rw[this]at V;injection V with V
   subst V;exact BC _ _ hu0
  ·rw[lW qb9];have:=aKo i hi;simp only[wW,aI3 (fr+(i - ids.length)) au au];rw[mV au];have e:ids.length+(fr+(i - ids.length) - fr)=i:=by omega
   rw[e];exact V
 have B:∀l a,blk' l=some a->(∃i z,x i=some z/\a=z.ren (backTo ids fr)/\l=backTo ids fr i)\/
   (l∉ids/\¬(fr<=l/\l < fr+64)/\blk l=some a/\(hot (some a)=true->fz=true->l∉jk))\/(fz=true/\l∈jk/\∃d,rwD (blk l)=some d/\a= .uZ d):=by
  intro l a m;by_cases t:l∈ids
  ·rw[hb.b1 l t]at m;obtain⟨z,c,rfl⟩:=Qca.1 m;refine .inl ⟨_,z,c,rfl,?_⟩;unfold backTo;have:=qW t;have hlt:=(Qa1.1 this).1;rw[mV qb9];simp[List.getD,this]
  ·by_cases y:fr<=l/\l < fr+64
   ·obtain⟨j,rfl⟩:∃j,l=fr+j:=⟨l - fr,by omega⟩;rw[hb.b2 j au]at m;obtain⟨z,c,rfl⟩:=Qca.1 m;refine .inl ⟨_,z,c,rfl,?_⟩;unfold backTo;rw[lW (by simp[CE])];omega
   ·by_cases s:fz=true/\l∈jk
    ·rcases hb.b3 l s.2 s.1 with⟨d,c,M⟩ | ⟨c,M⟩
     ·rw[M]at m;injection m with m
      exact .inr (.inr ⟨s.1,s.2,d,c,m.symm⟩)
     ·rw[M]at m;obtain⟨u,V,_⟩:=h.dn l a m;exact .inr (.inl ⟨t,glt l u V,m,fun p=>by rw[m]at c;rw[c]at p;cases p⟩)
    ·have q:=hb.b4 l t (fun e hm=>s ⟨e,hm⟩) y;rw[q]at m;obtain⟨u,V,_⟩:=h.dn l a m;exact .inr (.inl ⟨t,glt l u V,m,fun _ e hm=>s ⟨e,hm⟩⟩)
 have Wl:∀(f:Nat->Nat) (a:Bk D),hot (some (a.ren f))=hot (some a):=fun f a=>by cases a<;>rfl
 have left:∀i a v b,x i=some a->hot (some a)=true->o i=some v->eP v=some b->b < w'.heap.size/\(w.heap.size<=b\/Xc blk g ids b):=by
  intro i a v b t y s F;exact Q.mine (by rw[t];exact y) s F
 have xm:∀b,Xc blk g ids b->aV N blk g b:=fun b ⟨l,v,t,y,s,F⟩=> .inr ⟨l,v,t,s,F⟩
 have aBU:∀b,Xc blk g ids b->w0.Mine b:=fun b ⟨l,v,t,y,s,F⟩=>(h.mine t s F).2
 have avM:∀l v b,hot (blk l)=true->l∉ids->g l=some v->eP v=some b->¬Xc blk g ids b:=by
  rintro l v b t y s F ⟨C,H,c,M,X,q4⟩;have:=h.sep l C v H b t c s X F q4;subst this;exact y M
 have R:∀b,b < w.heap.size->¬Xc blk g ids b->w'.heap[b]? =w.heap[b]? :=fun b t y=>Q.below.block b t y
 have L:∀l,¬(fr<=l/\l < fr+64)->wW g o ids fr l=g l:=fun l m=>by
  unfold wW;cases e:g l with
  | some u=>rfl
  | none=>simp[m]
 have aKF:∀l a,blk l=some a->∃v,g l=some v:=fun l a m=>by obtain⟨v,Y,_⟩:=h.dn l a m;exact⟨v,Y⟩
 have V9:∀i a,x i=some a->∃v,o i=some v/\wW g o ids fr (backTo ids fr i)=some v:=fun i a hi=>by
  obtain⟨v,Y,_⟩:=Q.dn i a hi;exact⟨v,Y,gb i (by rw[hi];rfl) v Y⟩
 have hk:Keeps (aV N blk g) w (aV N blk' (wW g o ids fr)) w':=by
  refine⟨Q.below.size,fun b hlt W=>⟨?_,R b hlt fun q=>W (xm b q)⟩⟩;rintro(U | ⟨l,v,t,y,s⟩)
  ·exact W (.inl U)
  ·obtain⟨a,A,p⟩:=jJ t;rcases B l a A with⟨i,z,c,rfl,rfl⟩ | ⟨c,M,X,_⟩ | ⟨_,_,d,_,rfl⟩
   ·obtain⟨v0,Z,J⟩:=V9 i z c;rw[y]at J;injection J with J
    subst J;rw[Wl]at p;rcases(left i z v b c p Z s).2 with q | q
    ·omega
    ·exact W (xm b q)
   ·rw[L l M]at y;exact W (.inr ⟨l,v,by rw[X];exact p,y,s⟩)
   ·simp[hot]at p
 have hsub:fz=true->∀b,aV N blk' (wW g o ids fr) b->aV (Nc N blk g ids jk) (x) o b:=by
  rintro hz b (U | ⟨l,v,t,y,s⟩)
  ·exact .inl (.inl U)
  ·obtain⟨a,A,p⟩:=jJ t;rcases B l a A with⟨i,z,c,rfl,rfl⟩ | ⟨c,M,X,q4⟩ | ⟨_,_,d,_,rfl⟩
   ·obtain⟨v0,Z,J⟩:=V9 i z c;rw[y]at J;injection J with J
    subst J;rw[Wl]at p;exact .inr ⟨i,v,by rw[c];exact p,Z,s⟩
   ·rw[L l M]at y;exact .inl (.inr ⟨l,v,by rw[X];exact p,c,q4 p hz,y,s⟩)
   ·simp[hot]at p
 refine⟨⟨⟨Q.below.os.trans h.below.os,Q.below.tape.trans h.below.tape,Q.below.output.trans h.below.output,EZ h.below.size Q.below.size,fun k hk' hx=> ?_⟩,h.hN,fun l a m=> ?_,?_,?_,?_,h.gl.keep hk⟩,hk,hsub,gb⟩
 ·refine(R k (Qb8 hk' h.below.size) fun q=> ?_).trans (h.below.block k hk' hx);rcases aBU k q with q | q
  ·omega
  ·exact hx q
 ·rcases B l a m with⟨i,z,c,rfl,rfl⟩ | ⟨c,M,X,q4⟩ | ⟨hz,hlv,d,q,rfl⟩
  ·obtain⟨v,Z,hok⟩:=Q.dn i z c;refine⟨v,gb i (by rw[c];rfl) v Z,hok.ren (fun C hl' u V=>gb C (hrefs i z c C hl') u V) (fun hd=>hsub (hfz i z c hd)) (fun p b hbv=> ?_)⟩;rcases(left i z v b c p Z hbv).2 with q | q
   ·exact .inl (EZ h.below.size q)
   ·exact aBU b q
  ·obtain⟨v,E,hok⟩:=h.dn l a X;refine⟨v,by rw[L l M];exact E,hok.keep hk BC fun p b hbv=> ?_⟩;have I:hot (blk l)=true:=by rw[X];exact p
   exact R b (h.mine I E hbv).1 (avM l v b I c E hbv)
  ·have hq:=J7 q;obtain⟨bkq,hbq,_⟩:=jJ hq;obtain⟨v,E,_⟩:=h.dn l _ hbq;refine⟨v,BC _ _ E,?_⟩;have hd0:dD S (fun b=>aV N blk g b/\eP v≠some b) w d v:=agJ hS h q E (fun b hb=>hb.1) (fun b hb hb'=>hb'.2 hb);refine hd0.keep ⟨Q.below.size,fun b hlt W=>⟨fun hb'=> ?_,R b hlt fun hx=> ?_⟩⟩
   ·
    have hmem:=hsub hz b hb';by_cases T:eP v=some b
    ·rcases hmem with(U | ⟨C,H,r1,r2,r3,r4,r5⟩) | ⟨i,H,r1,r2,r3⟩
     ·exact h.afj hq E T U
     ·have:=h.sep l C v H b hq r1 E r4 T r5;subst this;exact r3 hlv
     ·obtain⟨a,A,p⟩:=jJ r1;rcases(left i a H b A p r2 r3).2 with r | r
      ·omega
      ·exact avM l v b hq (Y l hlv) E T r
    ·exact W ⟨by
      rcases hmem with(U | ⟨C,H,r1,r2,r3,r4,r5⟩) | ⟨i,H,r1,r2,r3⟩
      ·exact .inl U
      ·exact .inr ⟨C,H,r1,r4,r5⟩
      ·obtain⟨a,A,p⟩:=jJ r1;rcases(left i a H b A p r2 r3).2 with r | r
       ·omega
       ·exact xm b r,T⟩
   ·by_cases T:eP v=some b
    ·exact avM l v b hq (Y l hlv) E T hx
    ·exact W ⟨xm b hx,T⟩
 ·intro l C v H b t y s F h5 h6;obtain⟨a,A,p⟩:=jJ t;obtain⟨bk',hbk',O⟩:=jJ y;rcases B l a A with⟨i,z,c,rfl,rfl⟩ | ⟨c,M,X,q4⟩ | ⟨_,_,d,_,rfl⟩
  ·obtain⟨v0,Z,J⟩:=V9 i z c;rw[s]at J;injection J with J
   subst J;rw[Wl]at p;rcases B C bk' hbk' with⟨i',aik,P,rfl,rfl⟩ | ⟨P,q2',q3',q4'⟩ | ⟨_,_,d,_,rfl⟩
   ·obtain⟨v0',e1',K⟩:=V9 i' aik P;rw[F]at K;injection K with K
    subst K;rw[Wl]at O;rw[Q.sep i i' v H b (by rw[c];exact p) (by rw[P];exact O) Z e1' h5 h6]
   ·rw[L C q2']at F;have I:hot (blk C)=true:=by rw[q3'];exact O
    rcases(left i z v b c p Z h5).2 with q | q
    ·have:=(h.mine I F h6).1;omega
    ·exact absurd q (avM C H b I P F h6)
   ·simp[hot]at O
  ·rw[L l M]at s;have I:hot (blk l)=true:=by rw[X];exact p
   rcases B C bk' hbk' with⟨i',aik,P,rfl,rfl⟩ | ⟨P,q2',q3',q4'⟩ | ⟨_,_,d,_,rfl⟩
   ·obtain⟨v0',e1',K⟩:=V9 i' aik P;rw[F]at K;injection K with K
    subst K;rw[Wl]at O;rcases(left i' aik H b P O e1' h6).2 with q | q
    ·have:=(h.mine I s h5).1;omega
    ·exact absurd q (avM l v b I c s h5)
   ·rw[L C q2']at F;exact h.sep l C v H b I (by rw[q3'];exact O) s F h5 h6
   ·simp[hot]at O
  ·simp[hot]at p
 ·intro n u G;unfold wW at G;split at G
  ·rename_i u' hu';exact .inl (h.al n u' hu')
  ·split at G
   ·rename_i q;exact .inr q
   ·cases G
 ·intro n u G;unfold wW at G;split at G
  ·rename_i u' hu';injection G with G;subst G;exact h.refs n _ hu'
  ·split at G
   ·exact Q.refs _ _ G
   ·cases G
end
end Go.Vc
namespace Go.Vc
open Go.RowKit
section
variable {D:Type}{P:Program}{S:Sh D}{T:TypeId->Option Ty}{Γ:FuncId->Option (Ct D)}{M M' N:Nat->Prop}{w w':World}{w0:Bs}{g g':Nat->Option Value}{blk blk':Nat->Option (Bk D)}{al:Nat->Prop}
 {a:Act} {o:Oper} {K:Act->World->Prop} {Q:Exit->Act->World->Prop} {slot:Nat->Sl D} {out:Out D} {fr:Nat} {ids jk:List Nat}
theorem aDy {i n:Nat}(h:n<=i):Nat.blt i n=false:=by
 cases e:Nat.blt i n with
 | false=>rfl
 | true=>
  have:i < n:=CE▸e;omega
theorem wH {c:Type}{k:Nat}:∀{b:List (Nat×c)} {f:Nat->c},(∀v,(k,v)∉b)->kw f b k=f k
 | [],_,_=>rfl
 | (e,a)::r,f,h=>by
  show kw (upd f e a) r k=f k
  rw[wH fun v d=>h v (Qb0 _ d)];exact bM _ _ _ _ (by rintro rfl;exact h a oI)
theorem Qy {c:Type}{k:Nat}{v:c}:∀{d:List (Nat×c)} {f:Nat->c},(k,v)∈d->(∀a,(k,a)∈d->a=v)->kw f d k=v
 | [],_,h,_=>by simp at h
 | (l,n)::r,f,h,i=>by
  show kw (upd f l n) r k=v
  by_cases e:∃a,(k,a)∈r
  ·obtain⟨a,b⟩:=e;have:=i a (Qb0 _ b);subst this;exact Qy b fun g j=>i g (Qb0 _ j)
  ·rw[wH fun a b=>e ⟨a,b⟩];rcases CW.1 h with h | h
   ·injection h with o m
    subst o m;exact upd_same _ _ _
   ·exact absurd ⟨v,h⟩ e
theorem qR:∀{l:List (Nat×Bk D)} {i:Nat} {a:Bk D},jM l i=some a->(i,a)∈l
 | [],i,a,h=>by simp[jM]at h
 | (k,v)::r,i,a,h=>by
  unfold jM at h;split at h
  ·rename_i b;injection h with h
   rw[<-Qa b,h];simp
  ·exact Qb0 _ (qR h)
theorem RU:∀{l:List (Nat×Bk D)} {i:Nat} {a:Bk D},nodupB l=true->(i,a)∈l->jM l i=some a
 | [],i,a,_,h=>by simp at h
 | (k,v)::r,i,a,b,h=>by
  simp only[nodupB,iT,Qbi,Qco]at b;unfold jM;rcases CW.1 h with h | h
  ·injection h with f d
   subst f d;rw[mV oI]
  ·have c:Nat.beq k i=false:=by
    have:=b.1 _ h;simp only[Qdx]at this;cases e:Nat.beq k i with
    | false=>rfl
    | true=>
     have:=Qa e;subst this;simp at*
   rw[c];exact RU b.2 h
theorem ZX {l:List (Nat×Bk D)}{i:Nat}(h:i∈l.map (·.1)):(jM l i).isSome=true:=by
 induction l with
 | nil=>simp at h
 | cons p r a=>
  obtain⟨k,v⟩:=p;unfold jM;split
  ·rfl
  ·rename_i b;simp only[H7,CW]at h;rcases h with rfl | h
   ·simp at b
   ·exact a h
theorem Gq {k:Nat}:∀{l:List (Nat×Bk D)},PT k l=true->∀i a,(i,a)∈l->i < k+64
 | [],_,i,a,h=>by simp at h
 | (j,v)::r,b,i,a,h=>by
  simp only[PT,iT]at b;rcases CW.1 h with h | h
  ·injection h with c d
   subst c;simpa[CE]using b.1
  ·exact Gq b.2 i a h
theorem g_.ren {f:Nat->Nat}:∀{a:List (Sl D)} {b:List Value},g_ S M w g a b->(∀l∈a.flatMap Sl.refs,∀u,g l=some u->g' (f l)=some u)->g_ S M w g' (a.map (Sl.ren f)) b
 | [],[],_,_=>trivial
 | x::a,v::b,h,c=>⟨h.1.ren (fun l hl=>c l qcl) (fun _ _ d=>d),g_.ren h.2 (fun l hl=>c l qc)⟩
theorem Lf.QY {f h:Nat->Nat}{x:Lf D}(b:∀l∈x.refs,h (f l)=l):(x.ren f).ren h=x:=by
 cases x with
 | ptr l o=>simp only[Lf.ren];rw[b l qb7]
 | own l=>simp only[Lf.ren];rw[b l qb7]
 | opt l i j d=>simp only[Lf.ren];rw[b l qb7]
 | part l i j d f=>simp only[Lf.ren];rw[b l qb7]
 | fn g a=>
  simp only[Lf.ren,Qcp];have:a.map (h∘f)=a:=by
   have:=Qbk (l:=a) (f:=h∘f) (g:=id) fun l c=>b l c
   simpa using this
  rw[this]
 | _=>rfl
theorem Bk.QY {f h:Nat->Nat}{b:Bk D}(i:∀l∈b.refs,h (f l)=l):(b.ren f).ren h=b:=by
 cases b with
 | cells cs=>
  simp only[Bk.ren,Qcp];have:cs.map (Lf.ren h∘Lf.ren f)=cs:=by
   have:=Qbk (l:=cs) (f:=Lf.ren h∘Lf.ren f) (g:=id) fun x a=>Lf.QY fun l c=>i l (vS.2 ⟨x,a,c⟩)
   simpa using this
  rw[this]
 | row e d=>rfl
 | uZ d=>rfl
 | iter s p=>rfl
 | map j=>rfl
 | tc t cs=>
  simp only[Bk.ren,Qcp];have:cs.map (Lf.ren h∘Lf.ren f)=cs:=by
   have:=Qbk (l:=cs) (f:=Lf.ren h∘Lf.ren f) (g:=id) fun x a=>Lf.QY fun l c=>i l (vS.2 ⟨x,a,c⟩)
   simpa using this
  rw[this]
theorem aqk {l:Nat}(h:l∈ids):backTo ids fr (iQ ids l)=l:=by
 unfold backTo;have:=qW h;have hlt:=(Qa1.1 this).1;rw[mV qb9];simp[List.getD,this]
theorem vH {f:FuncId}{ct:Ct D}{args:List (Sl D)}{M:List Value}(hS:iL S)(hok:dJ P S f ct)(h:Hp S w0 N blk g al w)(hfr:∀n,fr<=n->n < fr+64->¬al n)
  (hargs:∀ids B,tX blk ids=some B->(∀l∈jk,l∉ids)->g_ S (aV (Nc N blk g ids jk) (jT (B.map (Bk.ren (iQ ids)))) (gc g ids)) w g args M)
  (hvl:∀l∈jk,∃u,g l=some u) (hvr:∀l∈jk,(∃d,rwD (blk l)=some d)\/hot (blk l)=false\/l∈args.flatMap Sl.refs) (k:BM ct blk fr args jk=some out) (hp:lY out.pre):
  Calls P f M.toArray w fun e w'=>∃v g',e= .returned v/\More g g'/\Keeps (aV N blk g) w (aV N (kw blk out.blks) g') w'/\Hp S w0 N (kw blk out.blks) g' (fun n=>al n\/(fr<=n/\n < fr+64)) w'/\
   out.val.Rel S (aV N (kw blk out.blks) g') w' g' v:=by
 unfold BM at k;generalize Xg:reach blk 3 (lN [] (args.flatMap Sl.refs))=ids at k;dsimp only at k;have hnd:ids.Nodup:=by rw[<-Xg];exact DV 3 _ (pO _ _ Qd8)
 split at k
 ·cases k
 ·rename_i B Z;split at k
  ·rename_i hc;simp only[iT,Qbi,Qco]at hc;obtain⟨⟨c1,c2⟩,c3⟩:=hc;have c1:=ry c1;have c2:∀c∈B,∀l∈c.refs,l∈ids:=fun c s l o=>ry c2 l (vS.2 ⟨c,s,o⟩)
   have I:∀l∈jk,l∉ids:=fun l o F=>c3 l o (gz.2 F)
   split at k
   ·rename_i p r b a hct;split at k
    ·rename_i hq;simp only[iT]at hq;obtain⟨⟨⟨⟨⟨k1,k2⟩,k3⟩,k4⟩,k5⟩,k6⟩:=hq;have k6:∀i∈a,i < ids.length/\i∉b.map (·.1):=fun i G=>by
      have:=Rf.1 k6 i G;simp only[iT,Qbi]at this;refine⟨by simpa[CE]using this.1,fun F=> ?_⟩;rw[gz.2 F]at this;simp at this
     have hlen:(B.map (Bk.ren (iQ ids))).length=ids.length:=by rw[Qbn];exact(oW Z).1
     have Y:∀i,i∉a->rC b a (B.map (Bk.ren (iQ ids))) i=jM b i:=fun i G=>by
      unfold rC;cases z:jM b i with
      | some c=>rfl
      | none=>
       have:qK i a=false:=by
        cases F:qK i a with
        | false=>rfl
        | true=>exact absurd (gz.1 F) G
       simp[this]
     have U:∀i,i∈a->rC b a (B.map (Bk.ren (iQ ids))) i=(B.map (Bk.ren (iQ ids)))[i]? :=fun i G=>by
      unfold rC;have:jM b i=none:=by
       cases z:jM b i with
       | none=>rfl
       | some c=>exact absurd (Qb.2 ⟨_,qR z,rfl⟩) (k6 i G).2
      rw[this,gz.2 G];rfl
     have avP:∀i,i∈b.map (·.1)++a->(rC b a (B.map (Bk.ren (iQ ids))) i).isSome=true:=fun i G=>by
      by_cases t:i∈a
      ·rw[U i t];have:=(k6 i t).1;rw[<-hlen]at this;rw[Ph this];rfl
      ·rw[Y i t];rcases u_.1 G with q | q
       ·exact ZX q
       ·exact absurd q t
     injection k with k
     have hpre:lY p:=by subst k;exact hp
     have o:=h.lend hnd Z c2 I (jk:=jk);have hrel:=(hargs ids B Z I).ren (g':=gc g ids) (f:=iQ ids) (fun l o u Q=>by rw[aav (c1 l o)];exact Q);refine(hok.calls _ _ _ w M _ _ p r b a o hrel hct hpre).mono ?_;rintro e w' ⟨v,gc',rfl,F,hc',hr⟩;have glt:∀l u,g l=some u->¬(fr<=l/\l < fr+64):=fun l u o hle=>hfr l hle.1 hle.2 (h.al l u o)
     have J:∀l c,blk l=some c->¬(fr<=l/\l < fr+64):=fun l c o=>by obtain⟨u,Q,_⟩:=h.dn l c o;exact glt l u Q
     have V:∀l∈ids,¬(fr<=l/\l < fr+64):=fun l o=>by
      obtain⟨c,s,_⟩:=(oW Z).2 _ l (qW o);exact J l c s
     let K:Bool:=r.mX || b.any (fun q=>q.2.mX) || a.any (fun i=>atF (B.map (Bk.ren (iQ ids))) i)
     have inA:∀l x,(l,x)∈((ids.filter fun l=> !qK (iQ ids l) a).map fun l=>(l,(jM b (iQ ids l)).map (Bk.ren (backTo ids fr))))->l∈ids/\iQ ids l∉a/\x=(jM b (iQ ids l)).map (Bk.ren (backTo ids fr)):=by
      intro l x m;obtain⟨l',hl',H⟩:=Qb.1 m;injection H with e1 e2
      subst e1;obtain⟨E,C⟩:=Qb1.1 hl';refine⟨E,fun F=> ?_,e2.symm⟩;rw[gz.2 F]at C;simp at C
     have inB:∀l x,(l,x)∈((b.filter fun q=> !Nat.blt q.1 ids.length).map fun q=>(backTo ids fr q.1,some (q.2.ren (backTo ids fr))))->∃i c,(i,c)∈b/\ids.length<=i/\i < ids.length+64/\l=fr+(i - ids.length)/\x=some (c.ren (backTo ids fr)):=by
      intro l x m;obtain⟨⟨i,c⟩,hq,H⟩:=Qb.1 m;obtain⟨hmem,T⟩:=Qb1.1 hq;injection H with e1 e2
      have T:¬i < ids.length:=fun hlt=>by
       rw[show Nat.blt i ids.length=true from CE▸hlt]at T;simp at T
      refine⟨i,c,hmem,by omega,Gq k1 i c hmem,?_,e2.symm⟩;rw[<-e1];simp only[backTo];rw[lW (by simpa[CE]using T)]
     have inC:∀l x,(l,x)∈(if K then jk.filterMap (ja blk)else([]:List (Nat×Option (Bk D))))->K=true/\l∈jk/\∃d,rwD (blk l)=some d/\x=some (.uZ d):=by
      intro l x m;by_cases O:K=true
      ·rw[mV O]at m;obtain⟨l',hl',H⟩:=Qcz.1 m;unfold ja at H;split at H
       ·rename_i d y;injection H with H
        injection H with e1 e2
        subst e1;exact⟨O,hl',d,y,e2.symm⟩
       ·cases H
      ·rw[lW O]at m;simp at m
     have R:out.blks=((ids.filter fun l=> !qK (iQ ids l) a).map fun l=>(l,(jM b (iQ ids l)).map (Bk.ren (backTo ids fr))))++(b.filter fun q=> !Nat.blt q.1 ids.length).map (fun q=>(backTo ids fr q.1,some (q.2.ren (backTo ids fr))))++
      (if K then jk.filterMap (ja blk)else[]):=by
      rw[<-k]
     have A:∀l x,(l,x)∈out.blks->(l∈ids/\iQ ids l∉a/\x=(jM b (iQ ids l)).map (Bk.ren (backTo ids fr)))\/(∃i c,(i,c)∈b/\ids.length<=i/\i < ids.length+64/\l=fr+(i - ids.length)/\x=some (c.ren (backTo ids fr)))\/(K=true/\l∈jk/\∃d,rwD (blk l)=some d/\x=some (.uZ d)):=by
      intro l x m;rw[R]at m;rcases u_.1 m with m | m
      ·rcases u_.1 m with m | m
       ·exact .inl (inA l x m)
       ·exact .inr (.inl (inB l x m))
      ·exact .inr (.inr (inC l x m))
     have hB:Back blk (kw blk out.blks) (rC b a (B.map (Bk.ren (iQ ids)))) ids jk fr K:=by
      refine⟨fun l o=> ?_,fun j hj=> ?_,fun l o O=> ?_,fun l h1 h2 h3=> ?_⟩
      ·by_cases t:iQ ids l∈a
       ·obtain⟨c,E,C⟩:=(oW Z).2 _ l (qW o);rw[U _ t,Qbf,C];simp only[H6];rw[Bk.QY fun r hr=>aqk (c2 c (Qbl C) r hr),<-E];refine wH fun x m=> ?_;rcases A l x m with⟨_,q,_⟩ | ⟨i,c,E,C,X,W,_⟩ | ⟨_,q,_⟩
        ·exact q t
        ·exact absurd (show fr<=l/\l < fr+64 by omega) (V l o)
        ·exact absurd o (I l q)
       rw[Y _ t];refine Qy (by
        rw[R];refine Qbz _ (Qbz _ (Qb.2 ⟨l,Qb1.2 ⟨o,?_⟩,rfl⟩));cases F:qK (iQ ids l) a with
        | false=>rfl
        | true=>exact absurd (gz.1 F) t) fun x m=> ?_
       rcases A l x m with⟨_,_,q⟩ | ⟨i,c,E,C,X,W,_⟩ | ⟨_,q,_⟩
       ·exact q
       ·exact absurd (show fr<=l/\l < fr+64 by omega) (V l o)
       ·exact absurd o (I l q)
      ·rw[Y _ fun t=>by have:=(k6 _ t).1;omega];cases z:jM b (ids.length+j)with
       | none=>
        rw[wH]
        ·cases hb:blk (fr+j)with
         | none=>rfl
         | some c=>exact absurd ⟨Nat.le_add_right fr j,by omega⟩ (J _ c hb)
        ·intro x m;rcases A _ x m with⟨q,_⟩ | ⟨i,c,E,C,X,W,_⟩ | ⟨_,_,d,q,_⟩
         ·exact V _ q au
         ·have:i=ids.length+j:=by omega
          subst this;rw[RU k2 E]at z;cases z
         ·obtain⟨bkr,L,_⟩:=jJ (J7 q);exact J _ _ L au
       | some c=>
        refine Qy (by
         rw[R];refine Qbz _ (Qb5 _ (Qb.2 ⟨(ids.length+j,c),Qb1.2 ⟨qR z,by rw[aDy (Nat.le_add_right _ _)];rfl⟩,?_⟩));simp only[backTo,H6];rw[lW (by simp[CE])];congr 1;omega) fun x m=> ?_
        rcases A _ x m with⟨q,_⟩ | ⟨i,bk',E,C,X,W,q5⟩ | ⟨_,_,d,q,_⟩
        ·exact absurd au (V _ q)
        ·have:i=ids.length+j:=by omega
         subst this;rw[RU k2 E]at z;injection z with z
         rw[q5,z];rfl
        ·obtain⟨bkr,L,_⟩:=jJ (J7 q);exact absurd au (J _ _ L)
      ·by_cases y:∃d,rwD (blk l)=some d
       ·obtain⟨d,y⟩:=y;obtain⟨bkr,L,_⟩:=jJ (J7 y);refine .inl ⟨d,y,Qy (by
         rw[R,mV O];exact Qb5 _ (Qcz.2 ⟨l,o,by unfold ja;rw[y]⟩)) fun x m=> ?_⟩
        rcases A _ x m with⟨q,_⟩ | ⟨i,bk',E,C,X,W,q5⟩ | ⟨_,_,d',q,q'⟩
        ·exact absurd q (I l o)
        ·exact absurd au (J _ _ L)
        ·rw[y]at q;injection q with q
         rw[q',q]
       ·have hnot:hot (blk l)=false:=by
         rcases hvr l o with q | q | q
         ·exact absurd q y
         ·exact q
         ·exact absurd (c1 l q) (I l o)
        by_cases hfl:fr<=l/\l < fr+64
        ·obtain⟨u,Q⟩:=hvl l o;exact absurd hfl (glt l u Q)
        ·refine .inr ⟨hnot,wH fun x m=> ?_⟩;rcases A _ x m with⟨q,_⟩ | ⟨i,bk',E,C,X,W,q5⟩ | ⟨_,_,d',q,q'⟩
         ·exact I l o q
         ·exact hfl au
         ·exact y ⟨d',q⟩
      ·refine wH fun x m=> ?_;rcases A _ x m with⟨q,_⟩ | ⟨i,bk',E,C,X,W,q5⟩ | ⟨O,q,_⟩
       ·exact h1 q
       ·exact h3 au
       ·exact h2 O q
     obtain⟨g1,g2,g3,g4⟩:=h.back hS hfr hnd Z I F hc' hB (fun i G=>by
       by_cases t:i∈a
       ·have:=(k6 i t).1;omega
       rw[Y i t]at G;obtain⟨c,s⟩:=Qbs.1 G;exact Gq k1 i c (qR s))
      (fun i c s l o=>by
       by_cases t:i∈a
       ·rw[U i t]at s;exact avP l (ry k5 l (vS.2 ⟨i,t,by unfold aqI;rw[s];exact o⟩))
       ·rw[Y i t]at s;exact avP l (ry k3 l (vS.2 ⟨(i,c),qR s,o⟩)))
      (fun i c s hd=>by
       simp only[K,Qbp,Qcu];by_cases t:i∈a
       ·rw[U i t]at s;exact .inr ⟨i,t,by unfold atF;rw[s];exact hd⟩
       ·rw[Y i t]at s;exact .inl (.inr ⟨(i,c),qR s,hd⟩))
     refine⟨v,_,rfl,BC,g2,g1,?_⟩;have:out.val=r.ren (backTo ids fr):=by rw[<-k]
     rw[this];exact hr.ren (fun l o u Q=>g4 l (avP l (ry k4 l o)) u Q) (fun hd=>g3 (by simp[K,hd]))
    ·cases k
   ·cases k
  ·cases k
end
end Go.Vc

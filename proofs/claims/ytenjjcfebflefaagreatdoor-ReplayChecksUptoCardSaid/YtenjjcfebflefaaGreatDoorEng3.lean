/- Own engine: Vdr, Vds, Vdg, Vdi, Vdj. -/
import Derived.Test.YtenjjcfebflefaaGreatDoorEng2
import Derived.Lib.Overlaps
import Derived.Lib.AppendZerosOnto
set_option linter.unusedVariables false
set_option linter.unusedSimpArgs false
namespace Go.Vc
open Go.RowKit
section
variable {D:Type}{P:Program}{S:Sh D}{T:TypeId->Option Ty}{M N:Nat->Prop}{w w':World}{w0:Bs}{g:Nat->Option Value}{blk:Nat->Option (Bk D)}{al:Nat->Prop}
 {a:Act} {o:Oper} {K:Act->World->Prop} {Q:Exit->Act->World->Prop} {slot:Nat->Sl D} {out:Out D} {fr:Nat}
theorem IC (r:iZ S){d f:D}{c:Option Addr}{n a l h:Nat}(N:dF S M w d (.slice c n a))(s:S.sub d l h=some f)(H:l<=h)(C:h<=S.len d):dF S M w f (sliced c l h a (S.size d)):=by
 obtain⟨k,B,q⟩:=r.sub _ _ _ _ s H C;intro w' I;have u:=N w' I;generalize A:Value.slice c n a=v at u;cases u with
 | mp d m v X W T h=>rcases h.2 with⟨e,_⟩ | ⟨_,_,_,e,_⟩<;>(grind)
 | mk d P R J U F K g y o=>
  injection A with G V z
  subst G z;show Fp S w' f (.slice (if a=l then c else c.map (·.add (l*S.size d))) (h - l) (a - l))
  rw[<-B];refine Fp.mk f (r.Ht _ _ _ _ s).2 _ (a - l) (fun i j=>U (l+i) j) au au (fun i j t b=> ?_) (fun i j t b=> ?_) (fun i j x t b p=> ?_)
  ·rw[k]at b;obtain⟨E,Q,L⟩:=g (l+i) j au b;have O:¬a=l:=by omega
   refine⟨E.add (l*S.size d),by grind,?_⟩;rw[add_add',k,<-L,Qdx]
   grind
  ·rw[k]at b;rw[q i j au];exact y (l+i) j au b
  ·rw[k]at b;rw[q i j au]at p;exact o (l+i) j x au b p
theorem UN {n:Nat}{b:Option Operand}{l:Int}(d:∀x:Operand,(aG slot x).Rel S M w g (a.eval x))(h:bnd n (b.map (aG slot))=some l):(b=none/\l=n)\/∃x k,b=some x/\a.eval x= .int k l:=by
 cases b with
 | none=>simp only[Qcm,bnd,TC]at h;grind
 | some x=>
  simp only[ZR]at h;unfold bnd at h;split at h
  ·grind
  ·rename_i k i c;injection c with c
   injection h with h
   subst h;have:=d x;rw[c]at this;exact .inr ⟨x,k,rfl,this⟩
  ·cases h
theorem ao9 (s:iZ S){d c:D}{f:Option Addr}{n l h:Nat}(L:dF S M w d (.slice f n l))(t:S.sub d 0 h=some c)(C:h<=S.len d)(p:S.len c=h - 0):∃a,sliced f 0 h h (S.size d)= .slice a (S.len c) (S.len c)/\dF S M w c (sliced f 0 h h (S.size d)):=by
 obtain⟨k,Q,r⟩:=s.sub _ _ _ _ t (Jd _) C;refine⟨if h=0 then f else f.map (·.add (0*S.size d)),by rw[p];rfl,?_⟩;intro w' H;have y:=L w' H;generalize B:Value.slice f n l=v at y;cases y with
 | mp d m v W p T h=>rcases h.2 with⟨e,_⟩ | ⟨_,_,_,e,_⟩<;>(grind)
 | mk d O R I U F J g z o=>
  injection B with G V A
  subst G A;show Fp S w' c (.slice (if h=0 then f else f.map (·.add (0*S.size d))) (h - 0) (h - 0))
  rw[<-p];refine Fp.mk c (s.Ht _ _ _ _ t).2 _ (S.len c) (fun i j=>U (0+i) j) (rC _) au (fun i j u b=> ?_) (fun i j u b=> ?_) (fun i j x u b q=> ?_)
  ·rw[k]at b;obtain⟨E,P,K⟩:=g (0+i) j au b;have N:¬h=0:=by omega
   refine⟨E.add (0*S.size d),by grind,?_⟩;rw[add_add',k,<-K,Qdx]
   grind
  ·rw[k]at b;rw[r i j au];exact z (0+i) j au b
  ·rw[k]at b;rw[r i j au]at q;exact o (0+i) j x au b q
theorem LG {t e:TypeId}{x:Operand}{j k:Option Operand}{p s n cap:Nat}{m:Option Addr}{l d:Int}(A:o.op= .slice t x j k none)(q:P.underlying t=some (.slice e))(b:(sizeOf e).run P w= .ok p w)(z:a.eval x= .slice m n cap)(C:n<=cap)
  (y:∀x:Operand,(aG slot x).Rel S (aY N blk g) w g (a.eval x)) (E:bnd 0 (j.map (aG slot))=some l) (u:bnd n (k.map (aG slot))=some d) (D:p=s) (L:0<=l) (H:l<=d) (J:d<=n):
  (execOp a.eval o).run P w= .ok (.value (sliced m l.toNat d.toNat cap s)) w:=by
 have c:P.elem t=e:=by simp[Program.elem,q]
 have f:P.underlying t=some (.slice (P.elem t)):=by grind
 have B:(execOp a.eval o).run P w=((Instr.slice t (.slice m (n) cap) (j.map a.eval) (k.map a.eval) none).run P w).andThen fun v w=> .ok (.value v) w:=by
  simp[execOp,A,z,run_sliceAt_slice w t _ _ _ _ f]
 rw[B];rcases UN y E with⟨rfl,F⟩ | ⟨K,kl,rfl,h⟩<;>rcases UN y u with⟨rfl,G⟩ | ⟨I,r,rfl,i⟩
 ·simp only[Qcm];rw[run_slice_all w t _ _ _ f,c,b];simp_all
 ·simp only[Qcm,ZR,i];rw[run_slice_h w t _ _ _ f r d au au,c,b];simp_all
 ·simp only[Qcm,ZR,h];rw[run_slice_l w t _ _ _ f kl l au au,c,b];simp_all
 ·simp only[ZR,h,i];rw[run_slice_lh w t _ _ _ f kl r l d au au au,c,b,<-D];rfl
theorem af7 {t:TypeId}{x:Operand}{R Z:Option Operand}(hS:iZ S)(I:o.op= .slice t x R Z none)(p:∀t H,T t=some H->eP P t H)(h:Hp S w0 N blk g al w)
  (z:∀x:Operand,(aG slot x).Rel S (aY N blk g) w g (a.eval x)) (c:PN T S blk t (aG slot x) (R.map (aG slot)) (Z.map (aG slot))=some out) (U:nH out.pre) (J:Post S w0 N blk g al w fr out o.dst a K):o.wp P a w K Q:=by
 have f:=z x;unfold PN at c;split at c
 ·cases c
 ·rename_i H A;split at c
  ·cases c
  ·rename_i l L;split at c
   ·rename_i s j;rw[j]at f;simp only[Sl.Rel,Sv.Rel,Lf.Rel]at f;obtain⟨f,B⟩:=f;split at c
    ·rename_i Y;obtain⟨d,y,hkd⟩:=oz (p _ _ A);have Y:H.kind=3:=by simpa using Y
     rw[Y]at hkd;have y:P.underlying t=some .string:=by cases d<;>simp_all [kindOf]
     split at c
     ·rename_i k i;injection c with c
      subst c;obtain⟨D,C,E⟩:=U;have m:(ByteArray.mk s.toArray).size=s.length:=by rfl
      have aJu:(ByteArray.mk s.toArray).extract l.toNat k.toNat=⟨((s.take k.toNat).drop l.toNat).toArray⟩:=by
       apply ByteArray.ext;rw[ByteArray.data_extract]
       grind
      refine bg (v:= .string ⟨((s.take k.toNat).drop l.toNat).toArray⟩) ?_ h J rfl ⟨rfl,by grind⟩;rw[<-aJu];have e1:(execOp a.eval o).run P w=((Instr.slice t (.string ⟨s.toArray⟩) (R.map a.eval) (Z.map a.eval) none).run P w).andThen fun v w=> .ok (.value v) w:=by
       simp[execOp,I,f,run_sliceAt_string w t _ _ _ _ y]
      rw[e1];rcases UN z L with⟨rfl,hl0⟩ | ⟨xl,kl,rfl,B⟩<;>rcases UN z i with⟨rfl,hh0⟩ | ⟨xh,kh,rfl,M⟩
      ·simp only[Qcm];rw[run_slice_string_all w t _ y];simp_all
      ·simp only[Qcm,ZR,M];rw[run_slice_string_h w t _ y kh k au au];simp_all
      ·simp only[Qcm,ZR,B];rw[run_slice_string_l w t _ y kl l au au];simp_all
      ·simp only[ZR,B,M];rw[run_slice_string w t _ kl kh l k y au au au];rfl
     ·cases c
    ·cases c
   ·rename_i d j;rw[j]at f;split at c
    ·cases c
    ·rename_i e F;split at c
     ·cases c
     ·rename_i te G;have r:=lF (p _ _ A) F;have m:=mg (p _ _ G) w;split at c
      ·rename_i hc;simp only[jA]at hc;have h1:=Qa hc.1;split at c
       ·rename_i k i;split at c
        ·rename_i d' O;injection c with c
         subst c;obtain⟨D,C,E⟩:=U;have f:dF S (aY N blk g) w d (a.eval x):=f;obtain⟨av,cap,hv,V⟩:=dF.slice' f (hS.Ht _ _ _ _ O).1;rw[hv]at f;have W:=IC hS f O au au;refine bg (v:=sliced av l.toNat k.toNat cap (S.size d)) ?_ h J rfl W;exact LG I r m hv V z L i h1 D C E
        ·cases c
       ·cases c
      ·cases c
   ·rename_i q j;rw[j]at f;have f:g q=some (a.eval x):=f;split at c
    ·cases c
    ·rename_i e F;split at c
     ·cases c
     ·rename_i te G;have r:=lF (p _ _ A) F;have m:=mg (p _ _ G) w;split at c
      ·rename_i e' d hb;split at c
       ·rename_i k i;injection c with c
        subst c;obtain⟨D,C,E⟩:=U;obtain⟨v,u,_,xs,⟨_,X⟩,_⟩:=h.dD q _ hb;rw[f]at u;injection u with u
        rcases X with⟨h0,hn0⟩ | ⟨b,cap',cur,hvv,_,_,hnc,_⟩
        ·exact bg (v:=_) (LG (n:=S.len d) (cap:=0) I r m qg au z L i rfl D C E) h J rfl ⟨none,S.len d,0,by grind,rfl,by omega,by omega,rfl⟩
        ·exact bg (v:=_) (LG (n:=S.len d) I r m (by rw[u,hvv]) hnc z L i rfl D C E) h J rfl ⟨_,S.len d,_,by grind,rfl,by omega,by omega,rfl⟩
       ·cases c
      ·cases c
   ·cases c
theorem Hp.amT (h:Hp S w0 N blk g al w){l:Nat}{p bk':Bk D}{v:Value}(s:blk l=some p)(r:hot (some p)=true)(k:hot (some bk')=true)(x:g l=some v)
  (u:zS S (aY N blk g) w g w0 bk' v):Hp S w0 N (upd blk l (some bk')) g al w/\Keeps (aY N blk g) w (aY N (upd blk l (some bk')) g) w:=by
 have b:∀n,hot (upd blk l (some bk') n)=hot (blk n):=by
  intro n;by_cases e:n=l
  ·subst e;simp[upd_same,s,r,k]
  ·rw[bU _ _ _ _ e]
 have f:aY N (upd blk l (some bk')) g=aY N blk g:=by
  funext c;simp only[aY,b]
 refine⟨⟨h.below,h.hN,?_,?_,h.al,h.refs,by rw[f];exact h.gl⟩,f▸Keeps.refl _ _⟩
 ·intro n j i;rw[f];by_cases e:n=l
  ·subst e;rw[upd_same]at i
   grind
  ·rw[bU _ _ _ _ e]at i;exact h.dD n j i
 ·intro a c q t d o m;rw[b]at o m;exact h.sep a c q t d o m
theorem aEx {v:Value}(h:v.oneCell'=true):one' v=true:=by cases v<;>simp_all [one',Value.oneCell']
theorem ajF {c:Call}{x y:Operand}(s:iZ S)(ho:o.op= .call c)(hc:c.callee= .builtin .copy)(hx':c.args.toList=[x,y])(Z:∀t ty,T t=some ty->eP P t ty)(h:Hp S w0 N blk g al w)
  (E:(aG slot x).Rel S (aY N blk g) w g (a.eval x)) (L:(aG slot y).Rel S (aY N blk g) w g (a.eval y)) (f:aaM T S blk c.argTypes (aG slot x) (aG slot y)=some out) (hK:Post S w0 N blk g al w fr out o.dst a K):o.wp P a w K Q:=by
 unfold aaM at f;split at f
 ·rename_i t t' hts;split at f
  ·rename_i F;have F:=Qa F;subst F;split at f
   ·cases f
   ·rename_i ty hty;split at f
    ·cases f
    ·rename_i e hel;split at f
     ·cases f
     ·rename_i n hte;have U:=lF (Z _ _ hty) hel;have ao:=mg (Z _ _ hte) w;split at f
      ·rename_i l d2 hex FU;rw[hex]at E;rw[FU]at L;have E:g l=some (a.eval x):=E;have L:dF S (aY N blk g) w d2 (a.eval y):=L;split at f
       ·rename_i e' d1 hb;split at f
        ·rename_i X;simp only[jA]at X;obtain⟨c1,c2,c3,c4⟩:=X;have c1:=Qa c1;have c2:=Qa c2;have c3:=Qa c3;have c4:0 < n.size:=by simp_all
         subst c1;split at f
         ·rename_i dp dq hdp hdq;split at f
          ·rename_i d hd;injection f with f
           subst f;generalize hm:min (S.len d2) (S.len d1)=m at*;have V:m<=S.len d1:=by omega
           have hm2:m<=S.len d2:=by omega
           obtain⟨p1,p2,p3⟩:=s.sub _ _ _ _ hdp au hm2;obtain⟨q1,q2,q3⟩:=s.sub _ _ _ _ hdq V (rC _);obtain⟨k1,k2,k3,k4,k5⟩:=s.cat _ _ _ hd;have an:S.size d=n.size:=by omega
           have C:S.len d=S.len d1:=by omega
           obtain⟨av,cap,p,W,hnl,hnc,hnz,hone,hnr⟩:=Ns (g:=g) s L au;obtain⟨v,q,JK,xs,⟨hxl,hown⟩,M⟩:=h.dD l _ hb;rw[E]at q;injection q with q
           have B:(Builtin.firstCells n.size m (a.eval y)).run P w= .ok (p.take (m*n.size)).toArray w:=by
            rw[W];cases av with
            | none=>
             have h0:=hnz rfl;have:m=0:=by omega
             subst this;simp[Builtin.firstCells]
            | some ad=>
             have hlen:(p.take (m*n.size)).length=m*n.size:=by
              simp_all
             have:=run_loadCells_list (P:=P) w ad (p.take (m*n.size)) (fun j u G=>hnc ad rfl j u (by
              grind))
             rw[hlen]at this;exact this
           have ac:(Builtin.lenOf (a.eval y)).run P w= .ok (S.len d2) w:=by rw[W];rfl
           have D:c.args= #[x,y]:=by grind
           have Y:c.argTypes= #[t,t]:=by grind
           rcases hown with⟨h0,hn0⟩ | ⟨b,J,r,aa,_,hh,hnc',hcm,hcs,htake⟩
           ·
            have hm0:m=0:=by omega
            subst hm0;have A:a.eval x= .slice none 0 0:=by rw[q,h0]
            have z:(execOp a.eval o).run P w= .ok (.value (goInt 0)) w:=by
             simp[execOp,ho,resolve,hc,invoke,builtin,D,Y,Builtin.copy_,run_underlying U,A,ac,ao,B]
            obtain⟨g1,g2⟩:=h.amT (bk':= .row e d) hb rfl rfl E (by
             rw[q];refine⟨⟨JK.1,by omega,by first | exact s.asQ au | (apply s.ZN;assumption)⟩,[],⟨by simp[C,hn0], .inl ⟨h0,by omega⟩⟩,fun i j R G=>by omega⟩)
            exact lL z (hK _ _ _ (More.refl _) g2 (g1.weaken fun _ h=> .inl h) rfl)
           ·have A:a.eval x= .slice (some ⟨b,0,none⟩) (S.len d1) J:=by rw[q,aa]
            have ab:(p.take (m*n.size)).length=m*n.size:=by
             simp_all
            have hms:m*n.size<=S.len d1*n.size:=Qbu _ V;have hcl:S.len d1*n.size<=r.toList.length:=by grind
            have hh':w.heap[b]? =some (.cells (r.toList).toArray e (0,0)):=by simpa using hh
            obtain⟨w',ap,ag,hn,hs,q1',q2',q3'⟩:=mX (P:=P) b e (p.take (m*n.size)) w r.toList 0 0 hh' au (by
             rw[Qbd];intro u O;exact aEx (hone u (List.mem_of_mem_take O)))
            have z:(execOp a.eval o).run P w= .ok (.value (goInt m)) w':=by
             have hmin:Nat.min (S.len d2) (S.len d1)=m:=hm;simp[execOp,ho,resolve,hc,invoke,builtin,D,Y,Builtin.copy_,run_underlying U,A,ac,hmin,ao,B,ap]
            have aIo:∀k,k < S.len d1*n.size->r.toList[k]? =xs[k]? :=fun k hk=>by grind
            simp only[Qb,zM,Qej,Qbs,ab]at ag;obtain⟨g1,g2⟩:=h.write (bk':= .row e d) hb rfl rfl E (by rw[A];rfl) q1' q2' q3' hs hn (fun hk=>by
             rw[q];refine⟨⟨JK.1,by omega,by first | exact s.asQ au | (apply s.ZN;assumption)⟩,(p.take (m*n.size)++r.toList.drop (m*n.size)).take (S.len d1*n.size),⟨?_, .inr ⟨b,J,(p.take (m*n.size)++r.toList.drop (m*n.size)).toArray,by rw[aa,C],Jd _,ag,by omega,hcm,?_,by rw[C,an]⟩⟩,fun i j R G=> ?_⟩
             ·grind
             ·grind
             ·rw[an]at G⊢;rw[C]at R;have H:=vH R G;rw[Qcr,nI H];have am:=s.data d i j au au;by_cases him:i < m
              ·obtain⟨u,O,I⟩:=hnr i j au au;have hlm:=vH him G;refine⟨u,?_,am,?_⟩
               ·grind
               ·have e1:S.cell d i j=S.cell d2 i j:=by grind
                rw[e1];exact I.keep hk (More.refl _)
              ·obtain⟨u,O,_,I⟩:=M i j R au;have hge:m*n.size<=i*n.size:=Qbu _ au;refine⟨u,?_,am,?_⟩
               ·rw[Qb5 au,ab,Qc3,show m*n.size+(i*n.size+j - m*n.size)=i*n.size+j by omega,aIo _ H,c2];exact O
               ·have e1:S.cell d i j=S.cell d1 i j:=by
                 have e2:=k5 (i - m) j au
                 grind
                rw[e1];exact I.keep hk (More.refl _))
            exact lL z (hK _ _ _ (More.refl _) g2 (g1.weaken fun _ h=> .inl h) rfl)
          ·cases f
         ·cases f
        ·cases f
       ·cases f
      ·cases f
  ·cases f
 ·cases f
end
end Go.Vc
namespace Go.Vc
open Go.RowKit
section
variable {P:Program}{w w':World}
end
section
variable {D:Type}{P:Program}{S:Sh D}
end
end Go.Vc
namespace Go.Vc
open Go.RowKit
section
variable {D:Type}{P:Program}{S:Sh D}{T:TypeId->Option Ty}{Γ:FuncId->Option (Ct D)}{M M' N:Nat->Prop}{w w':World}{w0:Bs}{g g':Nat->Option Value}{blk:Nat->Option (Bk D)}{al:Nat->Prop}
 {a:Act} {o:Oper} {K:Act->World->Prop} {Q:Exit->Act->World->Prop} {slot:Nat->Sl D} {out:Out D} {fr:Nat} {ids jB:List Nat}
theorem gJ {l:Nat}:∀{ids:List Nat},uP l ids=true ↔ l∈ids
 | []=>by simp[uP]
 | x::r=>by
  simp only[uP,Qbi,gJ,zN];constructor
  ·rintro(h | h)
   ·exact .inl (Qa h).symm
   ·exact .inr h
  ·rintro(rfl | h)
   ·exact .inl kM
   ·exact .inr h
theorem qR:∀(r ids:List Nat),ids.Nodup->(mQ ids r).Nodup
 | [],ids,h=>h
 | l::r,ids,h=>by
  unfold mQ;refine qR r _ ?_;split
  ·exact h
  ·rename_i c;rw[Qd2];refine⟨h,by simp,fun x b y a=> ?_⟩;simp at a;subst a;rintro rfl;exact c (gJ.2 b)
theorem Hg:∀(n:Nat) (ids:List Nat),ids.Nodup->(reach blk n ids).Nodup
 | 0,ids,h=>h
 | n+1,ids,h=>Hg n _ (qR _ _ h)
theorem uw:∀{r:List Nat},allIn ids r=true->∀l∈r,l∈ids
 | [],_,l,a=>by simp at a
 | x::r,h,l,a=>by
  simp only[allIn,jA]at h;rcases zN.1 a with rfl | a
  ·exact gJ.1 h.1
  ·exact uw h.2 l a
theorem qE:∀{ids:List Nat} {a:List (Bk D)},vI blk ids=some a->a.length=ids.length/\∀(i l:Nat),ids[i]? =some l->∃d,blk l=some d/\a[i]? =some d
 | [],a,h=>by simp[vI]at h;subst h;simp
 | x::r,a,h=>by
  unfold vI at h;split at h
  ·rename_i b j f c;injection h with h
   subst h;obtain⟨g,e⟩:=qE c
   grind
  ·cases h
theorem uz:∀{ids:List Nat} {l:Nat},l∈ids->ids[jd ids l]? =some l
 | [],l,h=>by simp at h
 | x::r,l,h=>by
  unfold jd;split
  ·simp_all
  ·rename_i a;have:l∈r:=by
    rcases zN.1 h with rfl | h
    ·simp at a
    ·exact h
   simpa using uz this
theorem GU (d:ids.Nodup){i l:Nat}(h:ids[i]? =some l):jd ids l=i:=by
 have c:l∈ids:=Qb8 h;have a:=uz c;have f:=(Qbn.1 h).1;have g:=(Qbn.1 a).1;have e:=(Qbn.1 h).2;have b:=(Qbn.1 a).2;exact(List.getElem_inj d).1 (b.trans e.symm)
theorem ai7 {f:Nat->Nat}:∀{a:List Nat} {b:List Value},(∀l∈a,∀v,g l=some v->g' (f l)=some v)->a.map g=b.map some->(a.map f).map g'=b.map some
 | [],[],_,_=>rfl
 | c::a,v::b,d,h=>by
  simp only[Lj,Qdv]at h⊢;exact⟨d c kM v h.1,ai7 (fun l hl=>d l qcd) h.2⟩
 | [],_::_,_,h=>by simp at h
 | _::_,[],_,h=>by simp at h
theorem Lf.Rel.ren {f:Nat->Nat}{x:Lf D}{v:Value}(h:x.Rel S M w g v)(r:∀l∈x.refs,∀u,g l=some u->g' (f l)=some u)(t:x.og=true->∀b,M' b->M b):(x.ren f).Rel S M' w g' v:=by
 cases x with
 | ptr l o=>obtain⟨b,m,c⟩:=h;exact⟨b,r l qbx _ m,c⟩
 | own l=>exact r l qbx _ h
 | opt l i j y=>obtain⟨b,n,q,m,c⟩:=h;exact⟨b,n,q,r l qbx _ m,c⟩
 | part l i j y f=>obtain⟨a,n,q,m,c⟩:=h;exact⟨a,n,q,r l qbx _ m,c⟩
 | glb i=>exact h
 | Tz x=>exact h
 | xt e=>exact Xt.Rel.mono h (t rfl)
 | fn B z=>obtain⟨A,m,c⟩:=h;exact⟨A,m,ai7 r c⟩
 | dat d=>exact dF.mono h (t rfl)
 | elt d i j=>obtain⟨a,n,q,m,c⟩:=h;exact⟨a,n,q,m.mono (t rfl),c⟩
 | any=>trivial
 | unk p=>exact h
 | val x=>exact h
 | bool b=>exact h
 | int k n=>exact h
 | str s=>exact h
theorem bf.ren {f:Nat->Nat}:∀{a:List (Lf D)} {c:List Value},bf S M w g a c->(∀l∈a.flatMap Lf.refs,∀u,g l=some u->g' (f l)=some u)->(a.any Lf.og=true->∀b,M' b->M b)->bf S M' w g' (a.map (Lf.ren f)) c
 | [],[],_,_,_=>trivial
 | x::a,v::c,h,i,d=>by
  simp only[Qct,Qbi]at d;exact⟨h.1.ren (fun l hl=>i l qcd) (fun e=>d (.inl e)),bf.ren h.2 (fun l hl=>i l qg) (fun e=>d (.inr e))⟩
theorem Sv.Rel.ren {f:Nat->Nat}{x:Sv D}{v:Value}(h:x.Rel S M w g v)(c:∀l∈x.refs,∀u,g l=some u->g' (f l)=some u)(a:x.og=true->∀b,M' b->M b):(x.ren f).Rel S M' w g' v:=by
 cases x with
 | lf x=>exact Lf.Rel.ren h c a
 | agg j=>obtain⟨e,i,d⟩:=h;exact⟨e,i,d.ren c a⟩
theorem iE.ren {f:Nat->Nat}:∀{a:List (Sv D)} {c:List Value},iE S M w g a c->(∀l∈a.flatMap Sv.refs,∀u,g l=some u->g' (f l)=some u)->(a.any Sv.og=true->∀b,M' b->M b)->iE S M' w g' (a.map (Sv.ren f)) c
 | [],[],_,_,_=>trivial
 | x::a,v::c,h,i,d=>by
  simp only[Qct,Qbi]at d;exact⟨h.1.ren (fun l hl=>i l qcd) (fun e=>d (.inl e)),iE.ren h.2 (fun l hl=>i l qg) (fun e=>d (.inr e))⟩
theorem Sl.Rel.ren {f:Nat->Nat}{x:Sl D}{v:Value}(h:x.Rel S M w g v)(c:∀l∈x.refs,∀u,g l=some u->g' (f l)=some u)(a:x.og=true->∀b,M' b->M b):(x.ren f).Rel S M' w g' v:=by
 cases x with
 | one x=>exact Sv.Rel.ren h c a
 | wU j=>obtain⟨e,i,d⟩:=h;exact⟨e,i,d.ren c a⟩
theorem Nu {f:Nat->Nat}(x:Option (Bk D)):hot (x.map (Bk.ren f))=hot x:=by
 cases x with
 | none=>rfl
 | some a=>cases a<;>rfl
theorem YN {f:Nat->Nat}{x:Lf D}(h:x.jY=true):x.ren f=x:=by cases x<;>first | rfl | simp[Lf.jY]at h
theorem ahO {x:Lf D}(h:x.jY=true):x.refs=[]:=by cases x<;>first | rfl | simp[Lf.jY]at h
theorem zS.ren {f:Nat->Nat}{B B':Bs}{c:Bk D}{v:Value}(h:zS S M w g B c v)(r:∀l∈c.refs,∀u,g l=some u->g' (f l)=some u)(q:c.og=true->∀b,M' b->M b)
  (k:hot (some c)=true->∀b,eH v=some b->B'.Mine b):zS S M' w g' B' (c.ren f) v:=by
 cases c with
 | cells cs=>
  obtain⟨b,y,t,rfl,_,a,o⟩:=h;exact⟨b,y,t,rfl,k rfl b rfl,a,o.ren r q⟩
 | row e d=>
  obtain⟨A,F,z,I⟩:=h;refine⟨⟨k rfl,A.2⟩,F,z,fun i j J E=> ?_⟩;obtain⟨u,K,C,H⟩:=I i j J E;have:=H.ren (g':=g') (M':=M') (f:=f) (fun l x=>by rw[ahO C]at x;simp at x) (fun _=>q rfl);rw[YN C]at this
  grind
 | xZ d=>exact dF.mono h (q rfl)
 | iter s p=>
  obtain⟨x,b,rfl,_,a⟩:=h;exact⟨x,b,rfl,k rfl b rfl,a⟩
 | map d=>
  obtain⟨m,b,G,n,A,r,rfl,_,a,o⟩:=h;exact⟨m,b,G,n,A,r,rfl,k rfl b rfl,a,o⟩
 | tc t cs=>
  obtain⟨b,y,rfl,_,a,o⟩:=h;exact⟨b,y,rfl,k rfl b rfl,a,o.ren r q⟩
def Nc (N:Nat->Prop)(a:Nat->Option (Bk D))(g:Nat->Option Value)(ids c:List Nat):Nat->Prop:=
 fun b=>N b\/∃l v,hot (a l)=true/\l∉ids/\l∉c/\g l=some v/\eH v=some b
def Xc (a:Nat->Option (Bk D))(g:Nat->Option Value)(ids:List Nat):Nat->Prop:=fun b=>∃l v,hot (a l)=true/\l∈ids/\g l=some v/\eH v=some b
def gc (g:Nat->Option Value)(ids:List Nat):Nat->Option Value:=fun i=>(ids[i]?).bind g
theorem adY {l:Nat}(h:l∈ids):gc g ids (jd ids l)=g l:=by simp[gc,uz h]
theorem Hp.mine (h:Hp S w0 N blk g al w){l b:Nat}{v:Value}(f:hot (blk l)=true)(d:g l=some v)(c:eH v=some b):b < w.heap.size/\w0.Mine b:=by
 obtain⟨i,_,e,a⟩:=h.at f d;exact a.lt e c
theorem Hp.ajh (h:Hp S w0 N blk g al w){l b:Nat}{v:Value}(e:hot (blk l)=true)(d:g l=some v)(c:eH v=some b):¬N b:=fun f=>by
 obtain⟨i,a⟩:=h.hN b f;rcases(h.mine e d c).2 with q | q
 ·omega
 ·exact a q
theorem aep {b:List (Bk D)}(g:vI blk ids=some b){f:Nat->Nat}{i:Nat}{d:Bk D}(h:lQ (b.map (Bk.ren f)) i=some d):∃l a,ids[i]? =some l/\blk l=some a/\a∈b/\d=a.ren f:=by
 obtain⟨o,c⟩:=qE g;simp only[lQ,Qb4,Qck]at h;obtain⟨a,m,rfl⟩:=h;have e:i < ids.length:=by grind
 obtain⟨j,n,k⟩:=c i ids[i] (Qav e)
 grind
theorem xx {p:List (Bk D)}(r:vI blk ids=some p){f:Nat->Nat}:∀b,aY (Nc N blk g ids jB) (lQ (p.map (Bk.ren f))) (gc g ids) b->aY N blk g b/\(N b\/∃l v,hot (blk l)=true/\l∉jB/\g l=some v/\eH v=some b\/l∈ids/\hot (blk l)=true/\g l=some v/\eH v=some b):=by
 rintro b ((h | ⟨l,v,a,k,c,m,q⟩) | ⟨i,v,a,k,c⟩)
 ·exact⟨.inl h, .inl h⟩
 ·exact⟨.inr ⟨l,v,a,m,q⟩, .inr ⟨l,v, .inl ⟨a,c,m,q⟩⟩⟩
 ·obtain⟨u,o,t⟩:=kN a;obtain⟨l,s,n,j,_,rfl⟩:=aep r o;have e:g l=some v:=by simpa[gc,n]using k
  have d:hot (blk l)=true:=by rw[j];have:=Nu (f:=f) (some s);grind
  exact⟨.inr ⟨l,v,d,e,c⟩, .inr ⟨l,v, .inr ⟨Qb8 n,d,e,c⟩⟩⟩
theorem Hp.lend (h:Hp S w0 N blk g al w){r:List (Bk D)}(L:ids.Nodup)(k:vI blk ids=some r)(o:∀z∈r,∀l∈z.refs,l∈ids)(hv:∀l∈jB,l∉ids):
  Hp S ⟨w,Xc blk g ids⟩ (Nc N blk g ids jB) (lQ (r.map (Bk.ren (jd ids)))) (gc g ids) (· < (r.map (Bk.ren (jd ids))).length) w:=by
 obtain⟨Y,ad⟩:=qE k;refine⟨BH.refl ⟨w,Xc blk g ids⟩,?_,?_,?_,?_,?_,h.gl.mono fun b c=>(xx k b c).1⟩
 ·rintro b (c | ⟨l,v,q,Q,I,p,A⟩)
  ·refine⟨h.mlt (.inl c),?_⟩;rintro⟨l,v,q,Q,I,p⟩;exact h.ajh q I p c
  ·refine⟨h.mlt (.inr ⟨l,v,q,p,A⟩),?_⟩;rintro⟨m,X,T,q2,Z,P⟩;have:=h.sep l m v X b q T p Z A P
   grind
 ·intro i z a;obtain⟨l,x,d,n,t,rfl⟩:=aep k a;obtain⟨v,s,H⟩:=h.dD l x n;refine⟨v,by simp[gc,d,s],H.ren (fun m e u U=> ?_) (fun _ b c=>(xx k b c).1) (fun hh b c=> .inr ⟨l,v,by grind,Qb8 d,s,c⟩)⟩;rw[adY (o _ t m e)];exact U
 ·intro i j V W b a O B E C y;obtain⟨aa,K,ac⟩:=kN a;obtain⟨ag,J,ab⟩:=kN O;obtain⟨l,x,d,n,_,rfl⟩:=aep k K;obtain⟨m,G,e,F,_,rfl⟩:=aep k J;have R:hot (blk l)=true:=by rw[n];have:=Nu (f:=jd ids) (some x);grind
  have M:hot (blk m)=true:=by rw[F];have:=Nu (f:=jd ids) (some G);grind
  have:=h.sep l m V W b R M (by simpa[gc,d]using B) (by simpa[gc,e]using E) C y;subst this;rw[<-GU L d,<-GU L e]
 ·intro i v a;simp only[gc]at a
  grind
 ·intro i v a;simp only[gc]at a;cases d:ids[i]? with
  | none=>grind
  | some l=>rw[d]at a;exact h.refs l v a
end
end Go.Vc
namespace Go.Vc
open Go.RowKit
section
variable {D:Type}{P:Program}{S:Sh D}{T:TypeId->Option Ty}{Γ:FuncId->Option (Ct D)}{M M' N:Nat->Prop}{w w':World}{w0:Bs}{g g':Nat->Option Value}{blk blk':Nat->Option (Bk D)}{al:Nat->Prop}
 {a:Act} {o:Oper} {K:Act->World->Prop} {Q:Exit->Act->World->Prop} {slot:Nat->Sl D} {out:Out D} {fr:Nat} {ids jB:List Nat}
theorem OH (h:Hp S w0 N blk g al w){c:Nat}{e:TypeId}{d:D}{v:Value}{M':Nat->Prop}(H:blk c=some (.row e d))(M:g c=some v)(J:∀b,M' b->aY N blk g b)(P:∀b,eH v=some b->¬M' b):
  dF S M' w d v:=by
 intro w' E;obtain⟨U,o,y,T,t,r⟩:=h.dD c _ H;rw[M]at o;injection o with o
 subst o;rcases t.2 with⟨rfl,V⟩ | ⟨b,z,n,rfl,_,B,C,_,R,G⟩
 ·have:=Fp.mk (S:=S) (w:=w') d y.2.2 none 0 (fun _ _=> .bool false) au au (fun i j a _=>by omega) (fun i j a _=>by omega) (fun i j _ a _=>by omega)
  grind
 ·have A:w'.heap[b]? =some (.cells n e (0,0)):=(E b (Ui B) (P b rfl)).trans B;have p:∀i j,i < S.len d->j < S.size d->∃u,n[i*S.size d+j]? =some u/\Lf.plain (S.cell d i j) u/\∀q,S.cell d i j= .dat q->Fp S w' q u:=by
   intro i j a m;obtain⟨u,k,s,L⟩:=r i j a m;have Q:=vH a m;have:n[i*S.size d+j]? =some u:=by
    grind
   have F:(S.cell d i j).Rel S M' w g u:=by
    have:=L.ren (g':=g) (M':=M') (f:=fun x=>x) (fun l _ u k=>k) (fun _=>J);rw[YN s]at this;exact this
   exact⟨u,this,KX s F E⟩
  refine Fp.mk (S:=S) (w:=w') d y.2.2 (some ⟨b,0,none⟩) z (fun i j=>(n[i*S.size d+j]?).getD undef) C y.2.1 (fun i j a m=> ?_) (fun i j a m=> ?_) (fun i j q a m I=> ?_)
  ·obtain⟨u,k,_⟩:=p i j a m;refine⟨_,rfl,?_⟩;simp only[k,Qdb];rw[m_,zM];simp[World.cell?,A,<-k]
  ·obtain⟨u,k,K,_⟩:=p i j a m;simpa[k]using K
  ·obtain⟨u,k,_,O⟩:=p i j a m;simpa[k]using O q I
theorem ao8 (p:∀d m,S.mp d=some m->S.len d=0/\S.size d=0)(h:Hp S w0 N blk g al w){c:Nat}{d:D}{v:Value}{e:Nat->Prop}(j:blk c=some (.map d))(q:g c=some v)(u:∀b,eH v=some b->¬e b):
  dF S e w d v:=by
 intro w' t;obtain⟨x,a,m,b,s,n,i,o,rfl,_,f,k⟩:=h.dD c _ j;rw[q]at a;injection a with a
 subst a;obtain⟨r,l⟩:=p _ _ i;exact .mp d m _ i r l ⟨o, .inr ⟨b,s,n,rfl,(t b (Ui f) (u b rfl)).trans f,k⟩⟩
theorem UK {a:Option (Bk D)}{d:D}(h:rwD a=some d):hot a=true:=by
 unfold rwD at h;split at h<;>first | rfl | cases h
theorem al5 (j:iZ S)(h:Hp S w0 N blk g al w){c:Nat}{d:D}{v:Value}{i:Nat->Prop}(a:rwD (blk c)=some d)(k:g c=some v)(o:∀b,i b->aY N blk g b)(n:∀b,eH v=some b->¬i b):
  dF S i w d v:=by
 unfold rwD at a;split at a
 ·rename_i e p f;injection a with a
  subst a;exact OH h f k o n
 ·rename_i p f;injection a with a
  subst a;exact ao8 (fun d m l=>⟨(j.zJ d m l).1,(j.zJ d m l).2.1⟩) h f k n
 ·cases a
def yS (g b:Nat->Option Value)(ids:List Nat)(a:Nat):Nat->Option Value:=fun l=>
 match g l with
 | some u=>some u
 | none=>if a<=l/\l < a+64 then b (ids.length+(l - a))else none
theorem Ff {a:Nat->Option Value}:More g (yS g a ids fr):=fun l v b=>by simp[yS,b]
structure Back (blk blk':Nat->Option (Bk D))(tab:Nat->Option (Bk D))(ids jB:List Nat)(fr:Nat)(fz:Bool):Prop where
 b1:∀l∈ids,blk' l=(tab (jd ids l)).map (Bk.ren (backTo ids fr))
 b2:∀j,j < 64->blk' (fr+j)=(tab (ids.length+j)).map (Bk.ren (backTo ids fr))
 b3:∀l∈jB,fz=true->(∃d,rwD (blk l)=some d/\blk' l=some (.xZ d))\/(hot (blk l)=false/\blk' l=blk l)
 b4:∀l,l∉ids->(fz=true->l∉jB)->¬(fr<=l/\l < fr+64)->blk' l=blk l
theorem Hp.back (hS:iZ S)(h:Hp S w0 N blk g al w){dD:List (Bk D)}{r:Nat->Option (Bk D)}{m:Nat->Option Value}{Y:Bool}(hfr:∀n,fr<=n->n < fr+64->¬al n)(G:ids.Nodup)(hg:vI blk ids=some dD)(hv:∀l∈jB,l∉ids)
  (hm:More (gc g ids) m) (F:Hp S ⟨w,Xc blk g ids⟩ (Nc N blk g ids jB) (r) m (fun _=>True) w') (U:Back blk blk' r ids jB fr Y)
  (aJD:∀i,(r i).isSome=true->i < ids.length+64) (hrefs:∀i a,r i=some a->∀l∈a.refs,(r l).isSome=true) (hfz:∀i a,r i=some a->a.og=true->Y=true):
  Hp S w0 N blk' (yS g m ids fr) (fun n=>al n\/(fr<=n/\n < fr+64)) w'/\Keeps (aY N blk g) w (aY N blk' (yS g m ids fr)) w'/\
   (Y=true->∀b,aY N blk' (yS g m ids fr) b->aY (Nc N blk g ids jB) (r) m b)/\
   ∀i,(r i).isSome=true->∀u,m i=some u->yS g m ids fr (backTo ids fr i)=some u:=by
 obtain⟨hlen,hat⟩:=qE hg;have aIh:∀l∈ids,∃u,g l=some u:=fun l o=>by
  obtain⟨a,B,_⟩:=hat _ l (uz o);obtain⟨v,hv,_⟩:=h.dD l a B
  grind
 have glt:∀l u,g l=some u->¬(fr<=l/\l < fr+64):=fun l u o hle=>hfr l hle.1 hle.2 (h.al l u o)
 have aIg:∀l,fr<=l->l < fr+64->g l=none:=fun l o hl2=>by
  cases e:g l with
  | none=>rfl
  | some u=>grind
 have gb:∀i,(r i).isSome=true->∀u,m i=some u->yS g m ids fr (backTo ids fr i)=some u:=by
  intro i hi u V;unfold backTo;by_cases W:i < ids.length
  ·rw[nI (by simp_all)];have o:ids[i]? =some (ids.getD i 0):=by grind
   obtain⟨u0,hu0⟩:=aIh _ (Qb8 o);have:m i=some u0:=hm i u0 (by unfold gc;grind);rw[this]at V;injection V with V
   subst V;exact Ff _ _ hu0
  ·rw[kT (by simp_all)];have:=aJD i hi;simp only[yS,aIg (fr+(i - ids.length)) au au]
   grind
 have y:∀l a,blk' l=some a->(∃i x,r i=some x/\a=x.ren (backTo ids fr)/\l=backTo ids fr i)\/
   (l∉ids/\¬(fr<=l/\l < fr+64)/\blk l=some a/\(hot (some a)=true->Y=true->l∉jB))\/(Y=true/\l∈jB/\∃d,rwD (blk l)=some d/\a= .xZ d):=by
  intro l a o;by_cases s:l∈ids
  ·rw[U.b1 l s]at o;obtain⟨x,c,rfl⟩:=Qck.1 o;refine .inl ⟨_,x,c,rfl,?_⟩;unfold backTo;have:=uz s;have W:=(Qbn.1 this).1;simp_all
  ·by_cases z:fr<=l/\l < fr+64
   ·obtain⟨j,rfl⟩:∃j,l=fr+j:=⟨l - fr,by omega⟩;rw[U.b2 j au]at o;obtain⟨x,c,rfl⟩:=Qck.1 o;refine .inl ⟨_,x,c,rfl,?_⟩;unfold backTo;rw[kT (by simp_all)];omega
   ·by_cases p:Y=true/\l∈jB
    ·rcases U.b3 l p.2 p.1 with⟨d,c,K⟩ | ⟨c,K⟩
     ·rw[K]at o;injection o with o
      exact .inr (.inr ⟨p.1,p.2,d,c,o.symm⟩)
     ·rw[K]at o;obtain⟨u,V,_⟩:=h.dD l a o;exact .inr (.inl ⟨s,glt l u V,o,fun t=>by rw[o]at c;rw[c]at t;cases t⟩)
    ·have q:=U.b4 l s (fun e hm=>p ⟨e,hm⟩) z
     grind
 have ab:∀(f:Nat->Nat) (a:Bk D),hot (some (a.ren f))=hot (some a):=fun f a=>by cases a<;>rfl
 have left:∀i a v b,r i=some a->hot (some a)=true->m i=some v->eH v=some b->b < w'.heap.size/\(w.heap.size<=b\/Xc blk g ids b):=by
  intro i a v b s z p C;exact F.mine qg p C
 have xm:∀b,Xc blk g ids b->aY N blk g b:=fun b ⟨l,v,s,z,p,C⟩=> .inr ⟨l,v,s,p,C⟩
 have aIR:∀b,Xc blk g ids b->w0.Mine b:=fun b ⟨l,v,s,z,p,C⟩=>(h.mine s p C).2
 have aJI:∀l v b,hot (blk l)=true->l∉ids->g l=some v->eH v=some b->¬Xc blk g ids b:=by
  rintro l v b s z p C ⟨A,M,c,K,q3,q4⟩;have:=h.sep l A v M b s c p q3 C q4
  grind
 have H:∀b,b < w.heap.size->¬Xc blk g ids b->w'.heap[b]? =w.heap[b]? :=fun b s z=>F.below.block b s z
 have L:∀l,¬(fr<=l/\l < fr+64)->yS g m ids fr l=g l:=fun l o=>by
  unfold yS
  grind
 have aJY:∀l a,blk l=some a->∃v,g l=some v:=fun l a o=>by obtain⟨v,hv,_⟩:=h.dD l a o;grind
 have ac:∀i a,r i=some a->∃v,m i=some v/\yS g m ids fr (backTo ids fr i)=some v:=fun i a hi=>by
  obtain⟨v,hv,_⟩:=F.dD i a hi
  grind
 have hk:Keeps (aY N blk g) w (aY N blk' (yS g m ids fr)) w':=by
  refine⟨F.below.size,fun b W T=>⟨?_,H b W fun q=>T (xm b q)⟩⟩;rintro(O | ⟨l,v,s,z,p⟩)
  ·exact T (.inl O)
  ·obtain⟨a,B,t⟩:=kN s;rcases y l a B with⟨i,x,c,rfl,rfl⟩ | ⟨c,K,q3,_⟩ | ⟨_,_,d,_,rfl⟩
   ·grind
   ·rw[L l K]at z;exact T (.inr ⟨l,v,by grind,z,p⟩)
   ·simp[hot]at t
 have aa:Y=true->∀b,aY N blk' (yS g m ids fr) b->aY (Nc N blk g ids jB) (r) m b:=by
  rintro hz b (O | ⟨l,v,s,z,p⟩)
  ·exact .inl (.inl O)
  ·obtain⟨a,B,t⟩:=kN s;rcases y l a B with⟨i,x,c,rfl,rfl⟩ | ⟨c,K,q3,q4⟩ | ⟨_,_,d,_,rfl⟩
   ·obtain⟨v0,Z,Q⟩:=ac i x c;rw[z]at Q;injection Q with Q
    subst Q;rw[ab]at t;exact .inr ⟨i,v,by grind,Z,p⟩
   ·rw[L l K]at z;exact .inl (.inr ⟨l,v,by grind,c,q4 t hz,z,p⟩)
   ·simp[hot]at t
 refine⟨⟨⟨F.below.os.trans h.below.os,F.below.tape.trans h.below.tape,F.below.output.trans h.below.output,KF h.below.size F.below.size,fun k hk' hx=> ?_⟩,h.hN,fun l a o=> ?_,?_,?_,?_,h.gl.keep hk⟩,hk,aa,gb⟩
 ·refine(H k (Qce hk' h.below.size) fun q=> ?_).trans (h.below.block k hk' hx);rcases aIR k q with q | q
  ·omega
  ·exact hx q
 ·rcases y l a o with⟨i,x,c,rfl,rfl⟩ | ⟨c,K,q3,q4⟩ | ⟨hz,hlv,d,q,rfl⟩
  ·obtain⟨v,Z,hok⟩:=F.dD i x c;refine⟨v,gb i (by rw[c];rfl) v Z,hok.ren (fun A hl' u V=>gb A (hrefs i x c A hl') u V) (fun hd=>aa (hfz i x c hd)) (fun t b ad=> ?_)⟩;rcases(left i x v b c t Z ad).2 with q | q
   ·exact .inl (KF h.below.size q)
   grind
  ·obtain⟨v,I,hok⟩:=h.dD l a q3;refine⟨v,by grind,hok.keep hk Ff fun t b ad=> ?_⟩;have J:hot (blk l)=true:=by grind
   exact H b (h.mine J I ad).1 (aJI l v b J c I ad)
  ·have hq:=UK q;obtain⟨bkq,hbq,_⟩:=kN hq;obtain⟨v,I,_⟩:=h.dD l _ hbq;refine⟨v,Ff _ _ I,?_⟩;have hd0:dF S (fun b=>aY N blk g b/\eH v≠some b) w d v:=al5 hS h q I (fun b U=>U.1) (fun b U hb'=>hb'.2 U);refine hd0.keep ⟨F.below.size,fun b W T=>⟨fun hb'=> ?_,H b W fun hx=> ?_⟩⟩
   ·
    have hmem:=aa hz b hb';by_cases hvb:eH v=some b
    ·rcases hmem with(O | ⟨A,M,X,r2,r3,r4,r5⟩) | ⟨i,M,X,r2,r3⟩
     ·exact h.ajh hq I hvb O
     ·have:=h.sep l A v M b hq X I r4 hvb r5
      grind
     ·obtain⟨a,B,t⟩:=kN X
      grind
    ·exact T ⟨by
      rcases hmem with(O | ⟨A,M,X,r2,r3,r4,r5⟩) | ⟨i,M,X,r2,r3⟩
      ·exact .inl O
      ·exact .inr ⟨A,M,X,r4,r5⟩
      ·obtain⟨a,B,t⟩:=kN X
       grind,hvb⟩
   grind
 ·intro l A v M b s z p C h5 h6;obtain⟨a,B,t⟩:=kN s;obtain⟨bk',hbk',R⟩:=kN z;rcases y l a B with⟨i,x,c,rfl,rfl⟩ | ⟨c,K,q3,q4⟩ | ⟨_,_,d,_,rfl⟩
  ·obtain⟨v0,Z,Q⟩:=ac i x c;rw[p]at Q;injection Q with Q
   subst Q;rw[ab]at t;rcases y A bk' hbk' with⟨i',ag,P,rfl,rfl⟩ | ⟨P,q2',q3',q4'⟩ | ⟨_,_,d,_,rfl⟩
   ·obtain⟨v0',e1',E⟩:=ac i' ag P;rw[C]at E;injection E with E
    subst E;rw[ab]at R;rw[F.sep i i' v M b qg qg Z e1' h5 h6]
   ·rw[L A q2']at C;have J:hot (blk A)=true:=by grind
    rcases(left i x v b c t Z h5).2 with q | q
    ·have:=(h.mine J C h6).1;omega
    grind
   ·simp[hot]at R
  ·rw[L l K]at p;have J:hot (blk l)=true:=by grind
   rcases y A bk' hbk' with⟨i',ag,P,rfl,rfl⟩ | ⟨P,q2',q3',q4'⟩ | ⟨_,_,d,_,rfl⟩
   ·obtain⟨v0',e1',E⟩:=ac i' ag P;rw[C]at E;injection E with E
    subst E;rw[ab]at R;rcases(left i' ag M b P R e1' h6).2 with q | q
    ·have:=(h.mine J p h5).1;omega
    grind
   ·rw[L A q2']at C;exact h.sep l A v M b J qg p C h5 h6
   ·simp[hot]at R
  ·simp[hot]at t
 ·intro n u G;unfold yS at G;split at G
  ·rename_i u' hu';exact .inl (h.al n u' hu')
  grind
 ·intro n u G;unfold yS at G;split at G
  ·rename_i u' hu';injection G with G;subst G;exact h.refs n _ hu'
  ·split at G
   ·exact F.refs _ _ G
   ·cases G
end
end Go.Vc
namespace Go.Vc
open Go.RowKit
section
variable {D:Type}{P:Program}{S:Sh D}{T:TypeId->Option Ty}{Γ:FuncId->Option (Ct D)}{M M' N:Nat->Prop}{w w':World}{w0:Bs}{g g':Nat->Option Value}{blk blk':Nat->Option (Bk D)}{al:Nat->Prop}
 {a:Act} {o:Oper} {K:Act->World->Prop} {Q:Exit->Act->World->Prop} {slot:Nat->Sl D} {out:Out D} {fr:Nat} {ids jB:List Nat}
theorem aFr {i n:Nat}(h:n<=i):Nat.blt i n=false:=by
 cases e:Nat.blt i n with
 | false=>rfl
 | true=>
  have:i < n:=Qcd▸e;omega
theorem yZ {b:Type}{k:Nat}:∀{a:List (Nat×b)} {f:Nat->b},(∀v,(k,v)∉a)->kY f a k=f k
 | [],_,_=>rfl
 | (e,c)::r,f,h=>by
  show kY (upd f e c) r k=f k
  rw[yZ fun v d=>h v (Qa9 _ d)];exact bU _ _ _ _ qg
theorem Vf {d:Type}{k:Nat}{v:d}:∀{c:List (Nat×d)} {f:Nat->d},(k,v)∈c->(∀a,(k,a)∈c->a=v)->kY f c k=v
 | [],_,h,_=>by simp at h
 | (o,l)::r,f,h,g=>by
  show kY (upd f o l) r k=v
  by_cases j:∃a,(k,a)∈r
  ·obtain⟨a,b⟩:=j;have:=g a (Qa9 _ b);subst this;exact Vf b fun i e=>g i (Qa9 _ e)
  ·rw[yZ fun a b=>j ⟨a,b⟩];rcases zN.1 h with h | h
   ·injection h with n m
    subst n m;exact upd_same _ _ _
   grind
theorem um:∀{l:List (Nat×Bk D)} {i:Nat} {a:Bk D},kX l i=some a->(i,a)∈l
 | [],i,a,h=>by simp[kX]at h
 | (k,v)::r,i,a,h=>by
  unfold kX at h;split at h
  ·simp_all
  ·exact Qa9 _ (um h)
theorem Zb:∀{l:List (Nat×Bk D)} {i:Nat} {a:Bk D},nodupB l=true->(i,a)∈l->kX l i=some a
 | [],i,a,_,h=>by simp at h
 | (k,v)::r,i,a,b,h=>by
  simp only[nodupB,jA,Qbg,Qc5]at b;unfold kX;rcases zN.1 h with h | h
  ·simp_all
  ·have c:Nat.beq k i=false:=by
    have:=b.1 _ h;simp only[Qc0]at this;cases e:Nat.beq k i with
    | false=>rfl
    | true=>
     simp_all
   rw[c];exact Zb b.2 h
theorem aex {l:List (Nat×Bk D)}{i:Nat}(h:i∈l.map (·.1)):(kX l i).isSome=true:=by
 induction l with
 | nil=>simp at h
 | cons p r b=>
  obtain⟨k,v⟩:=p;unfold kX;split
  ·rfl
  ·rename_i a;simp only[Lj,zN]at h;rcases h with rfl | h
   ·simp at a
   ·exact b h
theorem KR {k:Nat}:∀{l:List (Nat×Bk D)},TR k l=true->∀i a,(i,a)∈l->i < k+64
 | [],_,i,a,h=>by simp at h
 | (j,v)::r,b,i,a,h=>by
  simp only[TR,jA]at b;rcases zN.1 h with h | h
  ·simp_all
  ·exact KR b.2 i a h
theorem ik.ren {f:Nat->Nat}:∀{a:List (Sl D)} {b:List Value},ik S M w g a b->(∀l∈a.flatMap Sl.refs,∀u,g l=some u->g' (f l)=some u)->ik S M w g' (a.map (Sl.ren f)) b
 | [],[],_,_=>trivial
 | x::a,v::b,h,c=>⟨h.1.ren (fun l hl=>c l qcd) (fun _ _ d=>d),ik.ren h.2 (fun l hl=>c l qg)⟩
theorem Lf.Vz {f h:Nat->Nat}{x:Lf D}(b:∀l∈x.refs,h (f l)=l):(x.ren f).ren h=x:=by
 cases x with
 | ptr l o=>simp only[Lf.ren];rw[b l qbx]
 | own l=>simp only[Lf.ren];rw[b l qbx]
 | opt l i j c=>simp only[Lf.ren];rw[b l qbx]
 | part l i j c f=>simp only[Lf.ren];rw[b l qbx]
 | fn g a=>
  simp only[Lf.ren,Qcy];have:a.map (h∘f)=a:=by
   have:=Qbb (l:=a) (f:=h∘f) (g:=id) fun l d=>b l d
   simp_all
  rw[this]
 | _=>rfl
theorem Bk.Vz {f h:Nat->Nat}{b:Bk D}(i:∀l∈b.refs,h (f l)=l):(b.ren f).ren h=b:=by
 cases b with
 | cells cs=>
  simp only[Bk.ren,Qcy];have:cs.map (Lf.ren h∘Lf.ren f)=cs:=by
   have:=Qbb (l:=cs) (f:=Lf.ren h∘Lf.ren f) (g:=id) fun x a=>Lf.Vz fun l c=>i l (zL.2 ⟨x,a,c⟩)
   simp_all
  rw[this]
 | row e d=>rfl
 | xZ d=>rfl
 | iter s p=>rfl
 | map j=>rfl
 | tc t cs=>
  simp only[Bk.ren,Qcy];have:cs.map (Lf.ren h∘Lf.ren f)=cs:=by
   have:=Qbb (l:=cs) (f:=Lf.ren h∘Lf.ren f) (g:=id) fun x a=>Lf.Vz fun l c=>i l (zL.2 ⟨x,a,c⟩)
   simp_all
  rw[this]
theorem av7 {l:Nat}(h:l∈ids):backTo ids fr (jd ids l)=l:=by
 unfold backTo;have:=uz h;have a:=(Qbn.1 this).1;simp_all
theorem yj {f:FuncId}{ct:Ct D}{args:List (Sl D)}{I:List Value}(hS:iZ S)(hok:fK P S f ct)(h:Hp S w0 N blk g al w)(ac:∀n,fr<=n->n < fr+64->¬al n)
  (aa:∀ids z,vI blk ids=some z->(∀l∈jB,l∉ids)->ik S (aY (Nc N blk g ids jB) (lQ (z.map (Bk.ren (jd ids)))) (gc g ids)) w g args I)
  (hvl:∀l∈jB,∃u,g l=some u) (hvr:∀l∈jB,(∃d,rwD (blk l)=some d)\/hot (blk l)=false\/l∈args.flatMap Sl.refs) (k:Ea ct blk fr args jB=some out) (hp:nH out.pre):
  Calls P f I.toArray w fun e Z=>∃v g',e= .returned v/\More g g'/\Keeps (aY N blk g) w (aY N (kY blk out.blks) g') Z/\Hp S w0 N (kY blk out.blks) g' (fun n=>al n\/(fr<=n/\n < fr+64)) Z/\
   out.val.Rel S (aY N (kY blk out.blks) g') Z g' v:=by
 unfold Ea at k;generalize ajd:reach blk 3 (mQ [] (args.flatMap Sl.refs))=ids at k;dsimp only at k;have ad:ids.Nodup:=by rw[<-ajd];exact Hg 3 _ (qR _ _ Qdk)
 split at k
 ·cases k
 ·rename_i z K;split at k
  ·rename_i hc;simp only[jA,Qbg,Qc5]at hc;obtain⟨⟨c1,W⟩,c3⟩:=hc;have c1:=uw c1;have W:∀c∈z,∀l∈c.refs,l∈ids:=fun c s l m=>uw W l (zL.2 ⟨c,s,m⟩)
   have R:∀l∈jB,l∉ids:=fun l m A=>c3 l m (gJ.2 A)
   split at k
   ·rename_i p r b a hct;split at k
    ·rename_i X;simp only[jA]at X;obtain⟨⟨⟨⟨⟨k1,k2⟩,k3⟩,k4⟩,k5⟩,k6⟩:=X;have k6:∀i∈a,i < ids.length/\i∉b.map (·.1):=fun i C=>by
      have:=Qbd.1 k6 i C;simp only[jA,Qbg]at this;refine⟨by simp_all,fun A=> ?_⟩;rw[gJ.2 A]at this;simp at this
     have hlen:(z.map (Bk.ren (jd ids))).length=ids.length:=by rw[Qby];exact(qE K).1
     have L:∀i,i∉a->xR b a (z.map (Bk.ren (jd ids))) i=kX b i:=fun i C=>by
      unfold xR;cases B:kX b i with
      | some c=>rfl
      | none=>
       have:uP i a=false:=by
        cases A:uP i a with
        | false=>rfl
        | true=>exact absurd (gJ.1 A) C
       simp[this]
     have O:∀i,i∈a->xR b a (z.map (Bk.ren (jd ids))) i=(z.map (Bk.ren (jd ids)))[i]? :=fun i C=>by
      unfold xR;have:kX b i=none:=by
       cases B:kX b i with
       | none=>rfl
       | some c=>exact absurd (JC.2 ⟨_,um B,rfl⟩) (k6 i C).2
      rw[this,gJ.2 C];rfl
     have M:∀i,i∈b.map (·.1)++a->(xR b a (z.map (Bk.ren (jd ids))) i).isSome=true:=fun i C=>by
      by_cases t:i∈a
      ·grind
      ·rw[L i t];rcases vN.1 C with q | q
       ·exact aex q
       grind
     injection k with k
     have hpre:nH p:=by grind
     have m:=h.lend ad K W R (jB:=jB);have hrel:=(aa ids z K R).ren (g':=gc g ids) (f:=jd ids) (fun l m u Y=>by rw[adY (c1 l m)];exact Y);refine(hok.calls _ _ _ w I _ _ p r b a m hrel hct hpre).mono ?_;rintro e Z ⟨v,gc',rfl,A,hc',hr⟩;have glt:∀l u,g l=some u->¬(fr<=l/\l < fr+64):=fun l u m ab=>ac l ab.1 ab.2 (h.al l u m)
     have ag:∀l c,blk l=some c->¬(fr<=l/\l < fr+64):=fun l c m=>by obtain⟨u,Y,_⟩:=h.dD l c m;grind
     have aJ_:∀l∈ids,¬(fr<=l/\l < fr+64):=fun l m=>by
      obtain⟨c,s,_⟩:=(qE K).2 _ l (uz m)
      grind
     let H:Bool:=r.og || b.any (fun q=>q.2.og) || a.any (fun i=>ayt (z.map (Bk.ren (jd ids))) i)
     have inA:∀l x,(l,x)∈((ids.filter fun l=> !uP (jd ids l) a).map fun l=>(l,(kX b (jd ids l)).map (Bk.ren (backTo ids fr))))->l∈ids/\jd ids l∉a/\x=(kX b (jd ids l)).map (Bk.ren (backTo ids fr)):=by
      intro l x o;obtain⟨l',an,U⟩:=JC.1 o;injection U with e1 e2
      subst e1;obtain⟨E,F⟩:=ZT.1 an;refine⟨E,fun A=> ?_,e2.symm⟩;rw[gJ.2 A]at F;simp at F
     have inB:∀l x,(l,x)∈((b.filter fun q=> !Nat.blt q.1 ids.length).map fun q=>(backTo ids fr q.1,some (q.2.ren (backTo ids fr))))->∃i c,(i,c)∈b/\ids.length<=i/\i < ids.length+64/\l=fr+(i - ids.length)/\x=some (c.ren (backTo ids fr)):=by
      intro l x o;obtain⟨⟨i,c⟩,X,U⟩:=JC.1 o;obtain⟨T,V⟩:=ZT.1 X;injection U with e1 e2
      have V:¬i < ids.length:=fun hlt=>by
       rw[show Nat.blt i ids.length=true from Qcd▸hlt]at V;simp at V
      refine⟨i,c,T,by omega,KR k1 i c T,?_,e2.symm⟩;rw[<-e1];simp only[backTo]
      grind
     have inC:∀l x,(l,x)∈(if H then jB.filterMap (jl blk)else([]:List (Nat×Option (Bk D))))->H=true/\l∈jB/\∃d,rwD (blk l)=some d/\x=some (.xZ d):=by
      intro l x o;by_cases hz:H=true
      ·rw[nI hz]at o;obtain⟨l',an,U⟩:=Qdc.1 o;unfold jl at U
       grind
      grind
     have J:out.blks=((ids.filter fun l=> !uP (jd ids l) a).map fun l=>(l,(kX b (jd ids l)).map (Bk.ren (backTo ids fr))))++(b.filter fun q=> !Nat.blt q.1 ids.length).map (fun q=>(backTo ids fr q.1,some (q.2.ren (backTo ids fr))))++
      (if H then jB.filterMap (jl blk)else[]):=by
      rw[<-k]
     have G:∀l x,(l,x)∈out.blks->(l∈ids/\jd ids l∉a/\x=(kX b (jd ids l)).map (Bk.ren (backTo ids fr)))\/(∃i c,(i,c)∈b/\ids.length<=i/\i < ids.length+64/\l=fr+(i - ids.length)/\x=some (c.ren (backTo ids fr)))\/(H=true/\l∈jB/\∃d,rwD (blk l)=some d/\x=some (.xZ d)):=by
      intro l x o;rw[J]at o;rcases vN.1 o with o | o
      ·grind
      grind
     have hB:Back blk (kY blk out.blks) (xR b a (z.map (Bk.ren (jd ids)))) ids jB fr H:=by
      refine⟨fun l m=> ?_,fun j hj=> ?_,fun l m hz=> ?_,fun l h1 h2 h3=> ?_⟩
      ·by_cases t:jd ids l∈a
       ·obtain⟨c,E,F⟩:=(qE K).2 _ l (uz m);rw[O _ t,Qb4,F];simp only[ZR];rw[Bk.Vz fun r hr=>av7 (W c (Qb8 F) r hr),<-E];refine yZ fun x o=> ?_
        grind
       rw[L _ t];refine Vf (by
        rw[J];refine Qb6 _ (Qb6 _ (JC.2 ⟨l,ZT.2 ⟨m,?_⟩,rfl⟩));cases A:uP (jd ids l) a with
        | false=>rfl
        | true=>exact absurd (gJ.1 A) t) fun x o=> ?_
       grind
      ·rw[L _ fun t=>by grind];cases B:kX b (ids.length+j)with
       | none=>
        rw[yZ]
        ·cases hb:blk (fr+j)with
         | none=>rfl
         | some c=>grind
        ·intro x o;rcases G _ x o with⟨q,_⟩ | ⟨i,c,E,F,q3,q4,_⟩ | ⟨_,_,d,q,_⟩
         ·grind
         ·have:i=ids.length+j:=by omega
          subst this;rw[Zb k2 E]at B;cases B
         ·obtain⟨bkr,Q,_⟩:=kN (UK q);exact ag _ _ Q au
       | some c=>
        refine Vf (by
         rw[J];refine Qb6 _ (Qb3 _ (JC.2 ⟨(ids.length+j,c),ZT.2 ⟨um B,by rw[aFr (Nat.le_add_right _ _)];rfl⟩,?_⟩));simp only[backTo,ZR];rw[kT (by simp[Qcd])];congr 1;omega) fun x o=> ?_
        rcases G _ x o with⟨q,_⟩ | ⟨i,am,E,F,q3,q4,q5⟩ | ⟨_,_,d,q,_⟩
        ·grind
        ·have:i=ids.length+j:=by omega
         subst this;rw[Zb k2 E]at B
         grind
        grind
      ·by_cases y:∃d,rwD (blk l)=some d
       ·obtain⟨d,y⟩:=y;obtain⟨bkr,Q,_⟩:=kN (UK y);refine .inl ⟨d,y,Vf (by
         rw[J,nI hz];exact Qb3 _ (Qdc.2 ⟨l,m,by unfold jl;rw[y]⟩)) fun x o=> ?_⟩
        rcases G _ x o with⟨q,_⟩ | ⟨i,am,E,F,q3,q4,q5⟩ | ⟨_,_,d',q,q'⟩
        ·exact absurd q (R l m)
        ·exact absurd au (ag _ _ Q)
        ·rw[y]at q;injection q with q
         rw[q',q]
       ·have hnot:hot (blk l)=false:=by
         grind
        by_cases hfl:fr<=l/\l < fr+64
        ·grind
        ·refine .inr ⟨hnot,yZ fun x o=> ?_⟩;rcases G _ x o with⟨q,_⟩ | ⟨i,am,E,F,q3,q4,q5⟩ | ⟨_,_,d',q,q'⟩
         ·exact R l m q
         ·exact hfl au
         ·exact y ⟨d',q⟩
      ·refine yZ fun x o=> ?_
       grind
     obtain⟨g1,g2,g3,g4⟩:=h.back hS ac ad K R A hc' hB (fun i C=>by
       by_cases t:i∈a
       ·grind
       rw[L i t]at C;obtain⟨c,s⟩:=Qb2.1 C;exact KR k1 i c (um s))
      (fun i c s l m=>by
       by_cases t:i∈a
       ·rw[O i t]at s;exact M l (uw k5 l (zL.2 ⟨i,t,by unfold ayp;grind⟩))
       ·rw[L i t]at s;exact M l (uw k3 l (zL.2 ⟨(i,c),um s,m⟩)))
      (fun i c s hd=>by
       simp only[H,Qbi,UD];by_cases t:i∈a
       ·rw[O i t]at s;exact .inr ⟨i,t,by unfold ayt;grind⟩
       ·rw[L i t]at s;exact .inl (.inr ⟨(i,c),um s,hd⟩))
     refine⟨v,_,rfl,Ff,g2,g1,?_⟩;have:out.val=r.ren (backTo ids fr):=by rw[<-k]
     rw[this];exact hr.ren (fun l m u Y=>g4 l (M l (uw k4 l m)) u Y) (fun hd=>g3 (by simp[H,hd]))
    ·cases k
   ·cases k
  ·cases k
end
end Go.Vc

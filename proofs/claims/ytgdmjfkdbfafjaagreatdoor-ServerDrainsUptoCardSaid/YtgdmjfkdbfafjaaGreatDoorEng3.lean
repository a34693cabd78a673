/- Own engine: Vdr, Vds, Vdg, Vdi, Vdj. -/
import Derived.Test.YtgdmjfkdbfafjaaGreatDoorEng2
import Derived.Lib.Overlaps
import Derived.Lib.AppendZerosOnto
set_option linter.unusedVariables false
set_option linter.unusedSimpArgs false
namespace Go.Vc
open Go.RowKit
section
variable {D:Type}{P:Program}{S:Sh D}{T:TypeId->Option Ty}{M N:Nat->Prop}{w w':World}{w0:Bs}{g:Nat->Option Value}{blk:Nat->Option (Bk D)}{al:Nat->Prop}
 {a:Act} {o:Oper} {K:Act->World->Prop} {Q:Exit->Act->World->Prop} {slot:Nat->Sl D} {out:Out D} {fr:Nat}
theorem Gt (s:jE S){d k:D}{c:Option Addr}{n a l h:Nat}(G:dN S M w d (.slice c n a))(q:S.sub d l h=some k)(K:l<=h)(I:h<=S.len d):dN S M w k (sliced c l h a (S.size d)):=by
 obtain⟨g,L,r⟩:=s.sub _ _ _ _ q K I;intro w' H;have y:=G w' H;generalize E:Value.slice c n a=v at y;cases y with
 | mp d m v R X T h=>rcases h.2 with⟨e,_⟩ | ⟨_,_,_,e,_⟩<;>(grind)
 | mk d Q V C U z B f p o=>
  injection E with J W F
  subst J F;show Cf S w' k (.slice (if a=l then c else c.map (·.add (l*S.size d))) (h - l) (a - l))
  rw[<-L];refine Cf.mk k (s.Jc _ _ _ _ q).2 _ (a - l) (fun i j=>U (l+i) j) au au (fun i j u b=> ?_) (fun i j u b=> ?_) (fun i j x u b t=> ?_)
  ·rw[g]at b;obtain⟨A,P,N⟩:=f (l+i) j au b;have O:¬a=l:=by omega
   refine⟨A.add (l*S.size d),by grind,?_⟩;rw[add_add',g,<-N,Qbl]
   grind
  ·rw[g]at b;rw[r i j au];exact p (l+i) j au b
  ·rw[g]at b;rw[r i j au]at t;exact o (l+i) j x au b t
theorem UW {n:Nat}{b:Option Operand}{l:Int}(d:∀x:Operand,(aN slot x).Rel S M w g (a.eval x))(h:bnd n (b.map (aN slot))=some l):(b=none/\l=n)\/∃x k,b=some x/\a.eval x= .int k l:=by
 cases b with
 | none=>simp only[Qcc,bnd,P7]at h;grind
 | some x=>
  simp only[YJ]at h;unfold bnd at h;split at h
  ·grind
  ·rename_i k i c;injection c with c
   injection h with h
   subst h;have:=d x;rw[c]at this;exact .inr ⟨x,k,rfl,this⟩
  ·cases h
theorem amM (t:jE S){d c:D}{b:Option Addr}{n l h:Nat}(H:dN S M w d (.slice b n l))(r:S.sub d 0 h=some c)(J:h<=S.len d)(p:S.len c=h - 0):∃a,sliced b 0 h h (S.size d)= .slice a (S.len c) (S.len c)/\dN S M w c (sliced b 0 h h (S.size d)):=by
 obtain⟨k,W,s⟩:=t.sub _ _ _ _ r (ve _) J;refine⟨if h=0 then b else b.map (·.add (0*S.size d)),by rw[p];rfl,?_⟩;intro w' I;have z:=H w' I;generalize F:Value.slice b n l=v at z;cases z with
 | mp d m v Q p R h=>rcases h.2 with⟨e,_⟩ | ⟨_,_,_,e,_⟩<;>(grind)
 | mk d P T E U A C g q o=>
  injection F with K V G
  subst K G;show Cf S w' c (.slice (if h=0 then b else b.map (·.add (0*S.size d))) (h - 0) (h - 0))
  rw[<-p];refine Cf.mk c (t.Jc _ _ _ _ r).2 _ (S.len c) (fun i j=>U (0+i) j) (nO _) au (fun i j y f=> ?_) (fun i j y f=> ?_) (fun i j x y f u=> ?_)
  ·rw[k]at f;obtain⟨B,O,L⟩:=g (0+i) j au f;have N:¬h=0:=by omega
   refine⟨B.add (0*S.size d),by grind,?_⟩;rw[add_add',k,<-L,Qbl]
   grind
  ·rw[k]at f;rw[s i j au];exact q (0+i) j au f
  ·rw[k]at f;rw[s i j au]at u;exact o (0+i) j x au f u
theorem LQ {t e:TypeId}{x:Operand}{k m:Option Operand}{p s n cap:Nat}{j:Option Addr}{l d:Int}(F:o.op= .slice t x k m none)(u:P.underlying t=some (.slice e))(c:(sizeOf e).run P w= .ok p w)(B:a.eval x= .slice j n cap)(A:n<=cap)
  (z:∀x:Operand,(aN slot x).Rel S (bi N blk g) w g (a.eval x)) (D:bnd 0 (k.map (aN slot))=some l) (q:bnd n (m.map (aN slot))=some d) (E:p=s) (M:0<=l) (I:l<=d) (J:d<=n):
  (execOp a.eval o).run P w= .ok (.value (sliced j l.toNat d.toNat cap s)) w:=by
 have b:P.elem t=e:=by simp[Program.elem,u]
 have f:P.underlying t=some (.slice (P.elem t)):=by grind
 have C:(execOp a.eval o).run P w=((Instr.slice t (.slice j (n) cap) (k.map a.eval) (m.map a.eval) none).run P w).andThen fun v w=> .ok (.value v) w:=by
  simp[execOp,F,B,run_sliceAt_slice w t _ _ _ _ f]
 rw[C];rcases UW z D with⟨rfl,H⟩ | ⟨K,y,rfl,h⟩<;>rcases UW z q with⟨rfl,G⟩ | ⟨L,r,rfl,i⟩
 ·simp only[Qcc];rw[run_slice_all w t _ _ _ f,b,c];simp_all
 ·simp only[Qcc,YJ,i];rw[run_slice_h w t _ _ _ f r d au au,b,c];simp_all
 ·simp only[Qcc,YJ,h];rw[run_slice_l w t _ _ _ f y l au au,b,c];simp_all
 ·simp only[YJ,h,i];rw[run_slice_lh w t _ _ _ f y r l d au au au,b,c,<-E];rfl
theorem agB {t:TypeId}{x:Operand}{X Z:Option Operand}(hS:jE S)(L:o.op= .slice t x X Z none)(k:∀t J,T t=some J->gW P t J)(h:Hp S w0 N blk g al w)
  (z:∀x:Operand,(aN slot x).Rel S (bi N blk g) w g (a.eval x)) (c:P5 T S blk t (aN slot x) (X.map (aN slot)) (Z.map (aN slot))=some out) (W:nJ out.pre) (H:Post S w0 N blk g al w fr out o.dst a K):o.wp P a w K Q:=by
 have f:=z x;unfold P5 at c;split at c
 ·cases c
 ·rename_i J E;split at c
  ·cases c
  ·rename_i l I;split at c
   ·rename_i s j;rw[j]at f;simp only[Sl.Rel,Sv.Rel,Lf.Rel]at f;obtain⟨f,C⟩:=f;split at c
    ·rename_i R;obtain⟨d,y,aa⟩:=oJ (k _ _ E);have R:J.kind=3:=by simpa using R
     rw[R]at aa;have y:P.underlying t=some .string:=by cases d<;>simp_all [kindOf]
     split at c
     ·rename_i m i;injection c with c
      subst c;obtain⟨G,A,B⟩:=W;have p:(ByteArray.mk s.toArray).size=s.length:=by rfl
      have aND:(ByteArray.mk s.toArray).extract l.toNat m.toNat=⟨((s.take m.toNat).drop l.toNat).toArray⟩:=by
       apply ByteArray.ext;rw[ByteArray.data_extract]
       grind
      refine bz (v:= .string ⟨((s.take m.toNat).drop l.toNat).toArray⟩) ?_ h H rfl ⟨rfl,by grind⟩;rw[<-aND];have e1:(execOp a.eval o).run P w=((Instr.slice t (.string ⟨s.toArray⟩) (X.map a.eval) (Z.map a.eval) none).run P w).andThen fun v w=> .ok (.value v) w:=by
       simp[execOp,L,f,run_sliceAt_string w t _ _ _ _ y]
      rw[e1];rcases UW z I with⟨rfl,hl0⟩ | ⟨xl,kl,rfl,C⟩<;>rcases UW z i with⟨rfl,hh0⟩ | ⟨xh,kh,rfl,O⟩
      ·simp only[Qcc];rw[run_slice_string_all w t _ y];simp_all
      ·simp only[Qcc,YJ,O];rw[run_slice_string_h w t _ y kh m au au];simp_all
      ·simp only[Qcc,YJ,C];rw[run_slice_string_l w t _ y kl l au au];simp_all
      ·simp only[YJ,C,O];rw[run_slice_string w t _ kl kh l m y au au au];rfl
     ·cases c
    ·cases c
   ·rename_i d j;rw[j]at f;split at c
    ·cases c
    ·rename_i e D;split at c
     ·cases c
     ·rename_i te F;have u:=lY (k _ _ E) D;have p:=lG (k _ _ F) w;split at c
      ·rename_i hc;simp only[kW]at hc;have h1:=Qa hc.1;split at c
       ·rename_i m i;split at c
        ·rename_i d' M;injection c with c
         subst c;obtain⟨G,A,B⟩:=W;have f:dN S (bi N blk g) w d (a.eval x):=f;obtain⟨av,cap,hv,U⟩:=dN.slice' f (hS.Jc _ _ _ _ M).1;rw[hv]at f;have V:=Gt hS f M au au;refine bz (v:=sliced av l.toNat m.toNat cap (S.size d)) ?_ h H rfl V;exact LQ L u p hv U z I i h1 G A B
        ·cases c
       ·cases c
      ·cases c
   ·rename_i q j;rw[j]at f;have f:g q=some (a.eval x):=f;split at c
    ·cases c
    ·rename_i e D;split at c
     ·cases c
     ·rename_i te F;have u:=lY (k _ _ E) D;have p:=lG (k _ _ F) w;split at c
      ·rename_i e' d hb;split at c
       ·rename_i m i;injection c with c
        subst c;obtain⟨G,A,B⟩:=W;obtain⟨v,r,_,xs,⟨_,Y⟩,_⟩:=h.dW q _ hb;rw[f]at r;injection r with r
        rcases Y with⟨h0,hn0⟩ | ⟨b,cap',cur,ab,_,_,hnc,_⟩
        ·exact bz (v:=_) (LQ (n:=S.len d) (cap:=0) L u p rf au z I i rfl G A B) h H rfl ⟨none,S.len d,0,by grind,rfl,by omega,by omega,rfl⟩
        ·exact bz (v:=_) (LQ (n:=S.len d) L u p (by rw[r,ab]) hnc z I i rfl G A B) h H rfl ⟨_,S.len d,_,by grind,rfl,by omega,by omega,rfl⟩
       ·cases c
      ·cases c
   ·cases c
theorem Hp.al2 (h:Hp S w0 N blk g al w){l:Nat}{o bk':Bk D}{v:Value}(s:blk l=some o)(q:hot (some o)=true)(j:hot (some bk')=true)(x:g l=some v)
  (u:zi S (bi N blk g) w g w0 bk' v):Hp S w0 N (upd blk l (some bk')) g al w/\Keeps (bi N blk g) w (bi N (upd blk l (some bk')) g) w:=by
 have b:∀n,hot (upd blk l (some bk') n)=hot (blk n):=by
  intro n;by_cases e:n=l
  ·subst e;simp[upd_same,s,q,j]
  ·rw[df _ _ _ _ e]
 have f:bi N (upd blk l (some bk')) g=bi N blk g:=by
  funext c;simp only[bi,b]
 refine⟨⟨h.below,h.hN,?_,?_,h.al,h.refs,by rw[f];exact h.gl⟩,f▸Keeps.refl _ _⟩
 ·intro n m i;rw[f];by_cases e:n=l
  ·subst e;rw[upd_same]at i
   grind
  ·rw[df _ _ _ _ e]at i;exact h.dW n m i
 ·intro a c t r d k p;rw[b]at k p;exact h.sep a c t r d k p
theorem alk {v:Value}(h:v.oneCell'=true):one' v=true:=by cases v<;>simp_all [one',Value.oneCell']
theorem aiQ {c:Call}{x y:Operand}(z:jE S)(ho:o.op= .call c)(hc:c.callee= .builtin .copy)(hx':c.args.toList=[x,y])(ab:∀t ty,T t=some ty->gW P t ty)(h:Hp S w0 N blk g al w)
  (E:(aN slot x).Rel S (bi N blk g) w g (a.eval x)) (M:(aN slot y).Rel S (bi N blk g) w g (a.eval y)) (f:aaI T S blk c.argTypes (aN slot x) (aN slot y)=some out) (hK:Post S w0 N blk g al w fr out o.dst a K):o.wp P a w K Q:=by
 unfold aaI at f;split at f
 ·rename_i t t' hts;split at f
  ·rename_i I;have I:=Qa I;subst I;split at f
   ·cases f
   ·rename_i ty hty;split at f
    ·cases f
    ·rename_i e hel;split at f
     ·cases f
     ·rename_i n hte;have am:=lY (ab _ _ hty) hel;have an:=lG (ab _ _ hte) w;split at f
      ·rename_i l d2 hex Ew;rw[hex]at E;rw[Ew]at M;have E:g l=some (a.eval x):=E;have M:dN S (bi N blk g) w d2 (a.eval y):=M;split at f
       ·rename_i e' d1 hb;split at f
        ·rename_i V;simp only[kW]at V;obtain⟨c1,c2,c3,c4⟩:=V;have c1:=Qa c1;have c2:=Qa c2;have c3:=Qa c3;have c4:0 < n.size:=by simp_all
         subst c1;split at f
         ·rename_i dp dq hdp hdq;split at f
          ·rename_i d hd;injection f with f
           subst f;generalize hm:min (S.len d2) (S.len d1)=m at*;have ao:m<=S.len d1:=by omega
           have hm2:m<=S.len d2:=by omega
           obtain⟨p1,p2,p3⟩:=z.sub _ _ _ _ hdp au hm2;obtain⟨q1,q2,q3⟩:=z.sub _ _ _ _ hdq ao (nO _);obtain⟨k1,k2,k3,k4,k5⟩:=z.cat _ _ _ hd;have ac:S.size d=n.size:=by omega
           have B:S.len d=S.len d1:=by omega
           obtain⟨av,cap,p,X,hnl,hnc,hnz,hone,hnr⟩:=Ll (g:=g) z M au;obtain⟨v,q,Jb,xs,⟨hxl,hown⟩,L⟩:=h.dW l _ hb;rw[E]at q;injection q with q
           have C:(Builtin.firstCells n.size m (a.eval y)).run P w= .ok (p.take (m*n.size)).toArray w:=by
            rw[X];cases av with
            | none=>
             have h0:=hnz rfl;have:m=0:=by omega
             subst this;simp[Builtin.firstCells]
            | some ad=>
             have hlen:(p.take (m*n.size)).length=m*n.size:=by
              simp_all
             have:=run_loadCells_list (P:=P) w ad (p.take (m*n.size)) (fun j u J=>hnc ad rfl j u (by
              grind))
             rw[hlen]at this;exact this
           have Y:(Builtin.lenOf (a.eval y)).run P w= .ok (S.len d2) w:=by rw[X];rfl
           have D:c.args= #[x,y]:=by grind
           have aa:c.argTypes= #[t,t]:=by grind
           rcases hown with⟨h0,hn0⟩ | ⟨b,G,r,Z,_,hh,hnc',hcm,hcs,htake⟩
           ·
            have hm0:m=0:=by omega
            subst hm0;have s:a.eval x= .slice none 0 0:=by rw[q,h0]
            have A:(execOp a.eval o).run P w= .ok (.value (goInt 0)) w:=by
             simp[execOp,ho,resolve,hc,invoke,builtin,D,aa,Builtin.copy_,run_underlying am,s,Y,an,C]
            obtain⟨g1,g2⟩:=h.al2 (bk':= .row e d) hb rfl rfl E (by
             rw[q];refine⟨⟨Jb.1,by omega,by first | exact z.asb au | (apply z.Y_;assumption)⟩,[],⟨by simp[B,hn0], .inl ⟨h0,by omega⟩⟩,fun i j O J=>by omega⟩)
            exact l9 A (hK _ _ _ (More.refl _) g2 (g1.weaken fun _ h=> .inl h) rfl)
           ·have s:a.eval x= .slice (some ⟨b,0,none⟩) (S.len d1) G:=by rw[q,Z]
            have ag:(p.take (m*n.size)).length=m*n.size:=by
             simp_all
            have hms:m*n.size<=S.len d1*n.size:=Zh _ ao;have hcl:S.len d1*n.size<=r.toList.length:=by grind
            have hh':w.heap[b]? =some (.cells (r.toList).toArray e (0,0)):=by simpa using hh
            obtain⟨w',hrun,W,hn,hs,q1',q2',q3'⟩:=lN (P:=P) b e (p.take (m*n.size)) w r.toList 0 0 hh' au (by
             rw[Qa2];intro u R;exact alk (hone u (List.mem_of_mem_take R)))
            have A:(execOp a.eval o).run P w= .ok (.value (goInt m)) w':=by
             have hmin:Nat.min (S.len d2) (S.len d1)=m:=hm;simp[execOp,ho,resolve,hc,invoke,builtin,D,aa,Builtin.copy_,run_underlying am,s,Y,hmin,an,C,hrun]
            have aME:∀k,k < S.len d1*n.size->r.toList[k]? =xs[k]? :=fun k hk=>by grind
            simp only[UX,Dw,Qd4,Qch,ag]at W;obtain⟨g1,g2⟩:=h.write (bk':= .row e d) hb rfl rfl E (by rw[s];rfl) q1' q2' q3' hs hn (fun hk=>by
             rw[q];refine⟨⟨Jb.1,by omega,by first | exact z.asb au | (apply z.Y_;assumption)⟩,(p.take (m*n.size)++r.toList.drop (m*n.size)).take (S.len d1*n.size),⟨?_, .inr ⟨b,G,(p.take (m*n.size)++r.toList.drop (m*n.size)).toArray,by rw[Z,B],ve _,W,by omega,hcm,?_,by rw[B,ac]⟩⟩,fun i j O J=> ?_⟩
             ·grind
             ·grind
             ·rw[ac]at J⊢;rw[B]at O;have F:=tu O J;rw[Qcp,yY F];have U:=z.data d i j au au;by_cases him:i < m
              ·obtain⟨u,R,H⟩:=hnr i j au au;have hlm:=tu him J;refine⟨u,?_,U,?_⟩
               ·grind
               ·have e1:S.cell d i j=S.cell d2 i j:=by grind
                rw[e1];exact H.keep hk (More.refl _)
              ·obtain⟨u,R,_,H⟩:=L i j O au;have hge:m*n.size<=i*n.size:=Zh _ au;refine⟨u,?_,U,?_⟩
               ·rw[Qbd au,ag,Qco,show m*n.size+(i*n.size+j - m*n.size)=i*n.size+j by omega,aME _ F,c2];exact R
               ·have e1:S.cell d i j=S.cell d1 i j:=by
                 have e2:=k5 (i - m) j au
                 grind
                rw[e1];exact H.keep hk (More.refl _))
            exact l9 A (hK _ _ _ (More.refl _) g2 (g1.weaken fun _ h=> .inl h) rfl)
          ·cases f
         ·cases f
        ·cases f
       ·cases f
      ·cases f
  ·cases f
 ·cases f
end
end Go.Vc
namespace Go.Vc
open Go.RowKit
section
variable {P:Program}{w w':World}
theorem wz {t e:TypeId}{s b o sLen dLen:Nat}{ad:Addr}{cs cur:List Value}{f:TypeId}(l:P.underlying t=some (.slice e))(q:∀w,(sizeOf e).run P w= .ok s w)
  (y:w.heap[b]? =some (.cells cur.toArray f (0,0))) (x:cs.length=Nat.min sLen dLen*s) (d:∀j u,cs[j]? =some u->w.cell? (ad.add j)=some u) (C:o+cs.length<=cur.length) (B:cs.all one'=true):
  ∃a,(∀p i h,(Builtin.copy_ #[t,t] p #[.slice (some ⟨b,o,none⟩) dLen i, .slice (some ad) sLen h]).run P w= .ok (goInt (Nat.min sLen dLen)) a)/\
   a.heap[b]? =some (.cells (cur.take o++(cs++cur.drop (o+cs.length))).toArray f (0,0))/\(∀n,n≠b->a.heap[n]? =w.heap[n]?)/\a.heap.size=w.heap.size/\a.os=w.os/\a.tape=w.tape/\a.output=w.output:=by
 obtain⟨a,g,c,k,v,z,r,A⟩:=lN (P:=P) b f cs w cur o 0 y au B;simp only[UX]at c;refine⟨a,fun p i h=> ?_,c,k,v,z,r,A⟩;have m:=run_loadCells_list (P:=P) w ad cs d;rw[x]at m;simp[Builtin.copy_,run_underlying l,Builtin.lenOf,Builtin.firstCells,q,m,g]
structure Ip (P:Program)(f t ti ov s:Nat):Prop where
 shift:∀(b n c i m vb vc:Nat) (w w1 w2:World),i < n->0 < m->n+m<=c->c<=9223372036854775807->
  (∀lb cb x,(callFunc ov #[.slice (some ⟨vb,0,none⟩) m vc, .slice (some ⟨b,x,none⟩) lb cb]).run P w= .ok (.value (.bool false)) w)->
  (∀ty dc sc,(Builtin.copy_ #[t,t] ty #[.slice (some ⟨b,(i+m)*s,none⟩) (n+m - (i+m)) dc, .slice (some ⟨b,i*s,none⟩) (n+m - i) sc]).run P w.drew= .ok (goInt (n - i:Nat)) w1)->
  (∀ty dc,(Builtin.copy_ #[t,t] ty #[.slice (some ⟨b,i*s,none⟩) (n+m - i) dc, .slice (some ⟨vb,0,none⟩) m vc]).run P w1= .ok (goInt m) w2)->
  Calls P f #[.slice (some ⟨b,0,none⟩) n c, .int .i64 i, .slice (some ⟨vb,0,none⟩) m vc] w fun e w'=>e= .returned (.slice (some ⟨b,0,none⟩) (n+m) c)/\w'=w2
 grow:∀(b n c i m h cc vb vc:Nat) (w w1 w2 w3:World),i < n->0 < m->n<=c->c < n+m->n+m<=cc->n+m<=9223372036854775807->
  (∀ty,(Builtin.append_ #[t,ti] ty #[.slice (some ⟨b,0,none⟩) i c, .int .i64 ((n:Int)+m - i)]).run P w= .ok (.slice (some ⟨h,0,none⟩) (n+m) cc) w1)->
  (∀ty dc,(Builtin.copy_ #[t,t] ty #[.slice (some ⟨h,i*s,none⟩) (n+m - i) dc, .slice (some ⟨vb,0,none⟩) m vc]).run P w1= .ok (goInt m) w2)->
  (∀ty dc sc,(Builtin.copy_ #[t,t] ty #[.slice (some ⟨h,(i+m)*s,none⟩) (n+m - (i+m)) dc, .slice (some ⟨b,i*s,none⟩) (n - i) sc]).run P w2.drew= .ok (goInt (n - i:Nat)) w3)->
  Calls P f #[.slice (some ⟨b,0,none⟩) n c, .int .i64 i, .slice (some ⟨vb,0,none⟩) m vc] w fun e w'=>e= .returned (.slice (some ⟨h,0,none⟩) (n+m) cc)/\w'=w3
 atEnd:∀(a a2:Option Addr) (n c m c2:Nat) (v':Value) (w w':World),0 < m->n<=c->n<=9223372036854775807->
  (∀ty,(Builtin.append_ #[t,t] ty #[.slice a n c, .slice a2 m c2]).run P w= .ok v' w')->
  Calls P f #[.slice a n c, .int .i64 n, .slice a2 m c2] w fun e w1=>e= .returned v'/\w1=w'
theorem ait {e b f:List Value}{n m c i s:Nat}(x:i < n)(o:n+m<=c)(p:e.length=c*s)(k:e.take (n*s)=b)(w:f.length=m*s):
  ((e.drop (i*s)).take ((n - i)*s))=b.drop (i*s)/\(b.drop (i*s)).length=(n - i)*s/\
  let a:=e.take ((i+m)*s)++(b.drop (i*s)++e.drop ((i+m)*s+(n - i)*s))
  let d:=a.take (i*s)++(f++a.drop (i*s+m*s))
  a.length=c*s/\d.length=c*s/\d.take ((n+m)*s)=b.take (i*s)++(f++b.drop (i*s)):=by
 have t:i*s<=n*s:=Zh _ au;have v:(n+m)*s<=c*s:=Zh _ o;have r:(n+m)*s=n*s+m*s:=Qbl ..;have u:(i+m)*s=i*s+m*s:=Qbl ..;have g:(n - i)*s=n*s - i*s:=Qd8 ..;have q:b.length=n*s:=by grind
 have j:(e.drop (i*s)).take ((n - i)*s)=b.drop (i*s):=by rw[<-k,List.drop_take,g]
 have l:(b.drop (i*s)).length=(n - i)*s:=by grind
 refine⟨j,l,?_⟩;intro a d;have l1:a.length=c*s:=by
  grind
 have t1:a.take (i*s)=b.take (i*s):=by
  grind
 have d1:a.drop (i*s+m*s)=b.drop (i*s)++e.drop ((i+m)*s+(n - i)*s):=by
  grind
 have h:d.length=c*s:=by
  grind
 refine⟨l1,h,?_⟩;simp only[d];rw[t1,d1,<-Qbc,<-Qbc,Qce rf,Qck rf,Qbc]
theorem He {b:Nat}{a:List Value}{c:TypeId}(d:w.heap[b]? =some (.cells a.toArray c (0,0)))(o j:Nat):w.cell? ((⟨b,o,none⟩:Addr).add j)=a[o+j]? :=by rw[l_,cell_of d]
def aiW (e s:Nat)(v:Value)(w:World)(n:Nat)(c:List Value)(r:Ending)(b:World):Prop:=
 ∃a,r= .returned a/\b.ownsRow 0 e s a n c/\w.grownBy b v.ownBlock/\(a.ownBlock=v.ownBlock\/a.ownBlock=some w.heap.size)
theorem ZE {f t ti O s e X:Nat}(H:Ip P f t ti O s)(T:0 < s)(A:P.underlying t=some (.slice e))(B:∀w,(sizeOf e).run P w= .ok s w)
  (M:∀args w,(callFunc O args).run P w=((Extern.SlicesOverlaps.overlaps #[t,t] #[X] args).run P w).andThen fun v w=> .ok (.value v) w)
  {b n c i m a C:Nat} {h g y q:List Value} (F:a≠b) (Q:w.heap[b]? =some (.cells h.toArray e (0,0))) (d:w.heap[a]? =some (.cells g.toArray e (0,0)))
  (S:h.length=c*s) (hx:h.take (n*s)=y) (hy:g.take (m*s)=q) (p:q.length=m*s) (hx1:y.all one'=true) (N:q.all one'=true)
  (hi:i < n) (hm:0 < m) (L:n+m<=c) (G:c<=maxLen):
  Calls P f #[.slice (some ⟨b,0,none⟩) n c, .int .i64 i, .slice (some ⟨a,0,none⟩) m C] w (aiW e s (.slice (some ⟨b,0,none⟩) n c) w (n+m) (y.take (i*s)++(q++y.drop (i*s)))):=by
 obtain⟨e1,Y,l1,l2,l3⟩:=ait hi L S hx p;have m1:i*s<=n*s:=Zh _ au;have m2:(n+m)*s<=c*s:=Zh _ L;have m3:(n+m)*s=n*s+m*s:=Qbl ..;have m4:(i+m)*s=i*s+m*s:=Qbl ..;have m5:(n - i)*s=n*s - i*s:=Qd8 ..;have D:w.drew.heap[b]? =some (.cells h.toArray e (0,0)):=Q;have z:Nat.min (n+m - i) (n+m - (i+m))=n - i:=by show min _ _=_;omega
 have l:Nat.min m (n+m - i)=m:=by show min _ _=_;omega
 obtain⟨K,Z,E,W,z1,o1,t1,p1⟩:=wz (P:=P) (w:=w.drew) (t:=t) (e:=e) (s:=s) (b:=b) (o:=(i+m)*s) (sLen:=n+m - i) (dLen:=n+m - (i+m)) (ad:=⟨b,i*s,none⟩) (cs:=y.drop (i*s)) (cur:=h) A B D
  (by rw[z,Y]) (fun j u hj=>by
   rw[He D,<-Qco]
   grind) au (by
   grind)
 rw[Y]at E;have V:K.heap[a]? =some (.cells g.toArray e (0,0)):=(W a F).trans d;obtain⟨w2,R,I,n2,z2,o2,t2,p2⟩:=wz (P:=P) (w:=K) (t:=t) (e:=e) (s:=s) (b:=b) (o:=i*s) (sLen:=m) (dLen:=n+m - i) (ad:=⟨a,0,none⟩) (cs:=q) A B E
  (by rw[l,p]) (fun j u hj=>by
   rw[He V,Dw]
   grind) au N
 rw[p]at I;rw[z]at Z;rw[l]at R;refine(H.shift b n c i m a C w K w2 hi hm L (by unfold maxLen at G;omega) (fun lb cb x=> ?_) Z (fun ty dc=>R ty dc C)).mono fun r w' hr=> ?_
 ·rw[M,Lib.run_overlaps_apart w t X e A s B ⟨a,0,none⟩ ⟨b,x,none⟩ m C lb cb F e e g.length h.length (by simp[World.shape?,d]) (by simp[World.shape?,Q]) (by have:0 < c*s:=Nat.mul_pos au T;omega) (by simp[World.frozen?,d]) (by simp[World.frozen?,d])];rfl
 ·obtain⟨rfl,rfl⟩:=hr;refine⟨_,rfl,⟨?_, .inr ⟨b,c,_,rfl,ve _,I,by omega,G,?_,l3⟩⟩,⟨o2.trans o1,t2.trans t1,p2.trans p1,?_,fun k hk U=> ?_⟩, .inl rfl⟩
  ·grind
  ·omega
  ·simp_all
  ·have J:k≠b:=fun e=>U qcx
   rw[n2 k J,W k J];rfl
theorem akW {f a e:List Value}{n m c i s:Nat}(w:i < n)(k:n+m<=c)(l:f.length=c*s)(g:a.length=n*s)(p:f.take (i*s)=a.take (i*s))(v:e.length=m*s):
  let d:=f.take (i*s)++(e++f.drop (i*s+m*s))
  let b:=d.take ((i+m)*s)++(a.drop (i*s)++d.drop ((i+m)*s+(n - i)*s))
  (a.drop (i*s)).length=(n - i)*s/\d.length=c*s/\b.length=c*s/\b.take ((n+m)*s)=a.take (i*s)++(e++a.drop (i*s)):=by
 have r:i*s<=n*s:=Zh _ au;have u:(n+m)*s<=c*s:=Zh _ k;have q:(n+m)*s=n*s+m*s:=Qbl ..;have t:(i+m)*s=i*s+m*s:=Qbl ..;have o:(n - i)*s=n*s - i*s:=Qd8 ..;have j:(a.drop (i*s)).length=(n - i)*s:=by grind
 intro d b;have l1:d.length=c*s:=by
  grind
 have t1:d.take ((i+m)*s)=a.take (i*s)++e:=by
  grind
 have h:b.length=c*s:=by
  simp only[b,um,QA,Qbs,l1,g];omega
 refine⟨j,l1,h,?_⟩;simp only[b];rw[t1,<-Qbc,Qce rf,Qck rf,Qbc]
theorem adw {f t X ov s e bytes:Nat}{kn:IntKind}{d:TypeInfo}{z:Value}(H:Ip P f t X ov s)(hs0:0 < s)(K:P.underlying t=some (.slice e))(hti:P.underlying X=some (.int kn))(U:∀w,(sizeOf e).run P w= .ok s w)
  (aiE:P.info? e=some d) (hz:d.zero=some z) (his:d.size=s) (T:d.bytes=bytes) (hzs:z.cells.size=s)
  {b n c i m q Y:Nat} {v O a A:List Value} (hvb:q≠b) (W:w.heap[b]? =some (.cells v.toArray e (0,0))) (M:w.heap[q]? =some (.cells O.toArray e (0,0)))
  (hcl:v.length=c*s) (hx:v.take (n*s)=a) (hy:O.take (m*s)=A) (C:A.length=m*s) (hx1:a.all one'=true) (ac:A.all one'=true)
  (hi:i < n) (hm:0 < m) (Q:n<=c) (hc:c < n+m) (R:n+m<=maxLen) (E:(n+m)*bytes<=140737488355328):
  Calls P f #[.slice (some ⟨b,0,none⟩) n c, .int .i64 i, .slice (some ⟨q,0,none⟩) m Y] w (aiW e s (.slice (some ⟨b,0,none⟩) n c) w (n+m) (a.take (i*s)++(A++a.drop (i*s)))):=by
 have m0:n*s<=c*s:=Zh _ Q;have m1:i*s<=n*s:=Zh _ au;have m3:(n+m)*s=n*s+m*s:=Qbl ..;have m4:(i+m)*s=i*s+m*s:=Qbl ..;have m5:(n - i)*s=n*s - i*s:=Qd8 ..;have hxl:a.length=n*s:=by grind
 have hxi:v.take (i*s)=a.take (i*s):=by grind
 have Z:(Builtin.firstCells d.size i (.slice (some ⟨b,0,none⟩) i c)).run P w.drew= .ok (a.take (i*s)).toArray w.drew:=by
  have hbd:w.drew.heap[b]? =some (.cells v.toArray e (0,0)):=W;have:=run_loadCells_list (P:=P) w.drew ⟨b,0,none⟩ (a.take (i*s)) (fun j u hj=>by
   rw[He hbd,Dw]
   grind)
  rw[QA,Nat.min_eq_left au]at this;rw[his];exact this
 have h:i+(n+m - i)=n+m:=by omega
 have I:∀F,_:=fun F=>Lib.run_append_grow_zeros (P:=P) w t X F e d z .i64 kn K hti aiE hz (some ⟨b,0,none⟩) i c (a.take (i*s)) Z (n+m - i) au au au (by rw[h];unfold maxLen at R;omega)
  (by rw[T];have:=Zh bytes (show n+m - i<=n+m by omega);omega) (by rw[T,h];exact growslice_fits hc E)
 rw[h]at I;have l:n+m<=grownCap w (n+m) c e:=grownCap_ge w _ _ _;have hG2:grownCap w (n+m) c e<=maxLen:=grownCap_le_maxLen w (n+m) c e au;generalize grownCap w (n+m) c e=G at*;have V:∀k,(Builtin.zeroCells z.cells k).size=k*s:=fun k=>by simp[Builtin.zeroCells,hzs]
 generalize hNL:((a.take (i*s)).toArray++Builtin.zeroCells z.cells (n+m - i)++Builtin.zeroCells z.cells (G - (n+m)))=p at I;have ab:(a.take (i*s)).length=i*s:=by grind
 have hnl:p.toList.length=G*s:=by
  rw[<-hNL,Qbf,Qc9,Qc9,V,V,List.size_toArray,ab,<-Qbl,<-Qbl]
  grind
 have hnt:p.toList.take (i*s)=a.take (i*s):=by
  grind
 generalize J:w.drew.alloc (.cells p e)=g at I;have S:∀k,k < w.heap.size->g.heap[k]? =w.heap[k]? :=fun k hk=>by rw[<-J];exact heap_alloc_old w.drew _ hk
 have hh:g.heap[w.heap.size]? =some (.cells p.toList.toArray e (0,0)):=by rw[<-J,Array.toArray_toList];exact heap_alloc_new w.drew _
 have hz1:w.heap.size < g.heap.size:=by
  grind
 have lb:=G5 W;have lv:=G5 M;obtain⟨e2,l1,l2,l3⟩:=akW (c:=G) hi l hnl hxl hnt C;have mG:(n+m)*s<=G*s:=Zh _ l;have B:Nat.min m (n+m - i)=m:=by show min _ _=_;omega
 have x:Nat.min (n - i) (n+m - (i+m))=n - i:=by grind
 obtain⟨D,r1,N,n1,z1,o1,t1,p1⟩:=wz (P:=P) (w:=g) (t:=t) (e:=e) (s:=s) (b:=w.heap.size) (o:=i*s) (sLen:=m) (dLen:=n+m - i) (ad:=⟨q,0,none⟩) (cs:=A) K U hh
  (by rw[B,C]) (fun j u hj=>by
   rw[He ((S q lv).trans M),Dw]
   grind) au ac
 rw[C]at N;have aa:D.drew.heap[b]? =some (.cells v.toArray e (0,0)):=((n1 b au).trans (S b lb)).trans W;obtain⟨w3,r2,L,n2,z2,o2,t2,p2⟩:=wz (P:=P) (w:=D.drew) (t:=t) (e:=e) (s:=s) (b:=w.heap.size) (o:=(i+m)*s) (sLen:=n - i) (dLen:=n+m - (i+m)) (ad:=⟨b,i*s,none⟩) (cs:=a.drop (i*s)) K U (show D.drew.heap[w.heap.size]? =_ from N)
  (by rw[x,e2]) (fun j u hj=>by
   rw[He aa]
   grind) au (by
   grind)
 rw[e2]at L;rw[B]at r1;rw[x]at r2;have y:g.os=w.os/\g.tape=w.tape/\g.output=w.output:=by rw[<-J];exact⟨rfl,rfl,rfl⟩
 refine(H.grow b n c i m w.heap.size G q Y w g D w3 hi hm Q hc l (by unfold maxLen at R;omega) (fun F=> ?_) (fun F dc=>r1 F dc Y) r2).mono fun r w' hr=> ?_
 ·grind
 ·obtain⟨rfl,rfl⟩:=hr;refine⟨_,rfl,⟨?_, .inr ⟨w.heap.size,G,_,rfl,ve _,L,l,hG2,?_,l3⟩⟩,⟨o2.trans (o1.trans y.1),t2.trans (t1.trans y.2.1),p2.trans (p1.trans y.2.2),?_,fun k hk hne=> ?_⟩, .inr rfl⟩
  ·grind
  ·omega
  ·grind
  ·rw[n2 k au];show D.heap[k]? =_
   grind
theorem akP {f t ti ov s e tb bytes:Nat}{kn:IntKind}{k:TypeInfo}{z:Value}(H:Ip P f t ti ov s)(B:0 < s)(C:P.underlying t=some (.slice e))(hti:P.underlying ti=some (.int kn))(U:∀w,(sizeOf e).run P w= .ok s w)
  (hov:∀args w,(callFunc ov args).run P w=((Extern.SlicesOverlaps.overlaps #[t,t] #[tb] args).run P w).andThen fun v w=> .ok (.value v) w)
  (Q:P.info? e=some k) (hz:k.zero=some z) (O:k.size=s) (N:k.bytes=bytes) (R:z.cells.size=s)
  {n m i:Nat} {o X:Value} {l q:List Value} (E:w.ownsRow 0 e s o n l) (al0:w.ownsRow 0 e s X m q) (hne:∀b,o.ownBlock=some b->X.ownBlock≠some b)
  (hx1:∀u∈l,u.oneCell'=true) (F:∀u∈q,u.oneCell'=true) (hi:i<=n) (V:0 < m) (x:n+m<=maxLen) (d:(n+m)*bytes<=140737488355328):
  Calls P f #[o, .int .i64 i,X] w (aiW e s o w (n+m) (l.take (i*s)++(q++l.drop (i*s)))):=by
 have S:l.all one'=true:=by rw[Qa2];exact fun u W=>alk (hx1 u W)
 have G:q.all one'=true:=by rw[Qa2];exact fun u W=>alk (F u W)
 obtain⟨y,hy⟩:=al0;rcases hy with⟨_,hm0⟩ | ⟨p,vc,L,rfl,_,J,hmc,hcm2,hcs2,T⟩
 ·omega
 by_cases hin:i=n
 ·subst hin;obtain⟨v',w',r1,r2,r3,r4⟩:=EW (P:=P) (w:=w) t 0 e k z s bytes C Q hz O N R B o i l E (some ⟨p,0,none⟩) m vc q y (fun ad h j u hj=>by
   injection h with h
   subst h;have aNE:w.heap[p]? =some (.cells L.toList.toArray e (0,0)):=by simpa using J
   rw[He aNE,Dw]
   grind) (fun h=>by cases h) F x d
  have hxl:=E.1;rw[Qck au,List.drop_of_length_le au,Qc4];have hv1:∃a c,o= .slice a i c/\i<=c:=by
   rcases E.2 with⟨rfl,Y⟩ | ⟨g,cap,A,rfl,_,_,h1,_⟩
   ·subst Y;exact⟨none,0,rfl,nO _⟩
   ·exact⟨_,cap,rfl,h1⟩
  obtain⟨a,c,rfl,Z⟩:=hv1;refine(H.atEnd a (some ⟨p,0,none⟩) i c m vc v' w w' V Z (by unfold maxLen at x;omega) (fun _=>r1)).mono fun r w1 hr=> ?_;obtain⟨rfl,rfl⟩:=hr;exact⟨v',rfl,r2,r3,r4⟩
 ·rcases E.2 with⟨_,Y⟩ | ⟨b,c,A,rfl,_,hh1,hnc,hcm,hcs,ht⟩
  ·omega
  have M:p≠b:=fun e=>hne b rfl qcx
  have hb:w.heap[b]? =some (.cells A.toList.toArray e (0,0)):=by simpa using hh1
  have I:w.heap[p]? =some (.cells L.toList.toArray e (0,0)):=by simpa using J
  have K:A.toList.length=c*s:=by omega
  by_cases D:n+m<=c
  ·exact ZE H B C U hov M hb I K ht T y S G au V D hcm
  ·exact adw H B C hti U Q hz O N R M hb I K ht T y S G au V hnc au x d
end
section
variable {D:Type}{P:Program}{S:Sh D}
def amc (S:Sh D)(e s bytes:Nat):Ct D:=fun args g=>
 match args,g with
 | [.one (.lf (.own a)), .one (.lf (.int k i)), .one (.lf (.own b))],[.row c d1, .row f d2]=>
  if Nat.beq a 0 && (Nat.beq b 1 && (Nat.beq c e && (Nat.beq f e && (Nat.beq (S.size d1) s && (Nat.beq (S.size d2) s && ZA k .i64)))))then
   (match S.sub d1 0 i.toNat,S.sub d1 i.toNat (S.len d1)with
   | some p,some q=>(match S.cat d2 q with
    | some r=>(match S.cat p r with
     | some d=>some (some (dp (0<=i/\i<=S.len d1/\0 < S.len d2/\bZ (S.len d1+S.len d2) bytes)), .one (.lf (.own 2)),[(2, .row e d)],[])
     | none=>none)
    | none=>none)
   | _,_=>none)else none
 | _,_=>none
theorem row_one (t:jE S){M:Nat->Prop}{w:World}{g:Nat->Option Value}{d:D}{s:Nat}{b:List Value}(c:0 < s)(l:S.size d=s)(n:b.length=S.len d*s)
  (o:∀i j,i < S.len d->j < S.size d->∃u,b[i*S.size d+j]? =some u/\(S.cell d i j).kF=true/\(S.cell d i j).Rel S M w g u):∀u∈b,u.oneCell'=true:=by
 intro u m;obtain⟨k,f⟩:=Qdx m;have e:k < b.length:=(Qba.1 f).1;rw[n]at e;have p:k / s < S.len d:=by rw[Qdu c];exact e
 obtain⟨r,a,h,q⟩:=o _ _ p (by rw[l];exact Qcw k c);have:k / s*s+k % s=k:=by rw[Qcl];exact Nat.div_add_mod k s
 rw[l,this,f]at a;injection a with a
 subst a;exact MG h q
theorem aht {f t ti ov s e tb bytes:Nat}{kn:IntKind}{inf:TypeInfo}{z:Value}(D:jE S)(aa:∀(args:Array Value) (w:World),(callFunc f args).run P w= .ok (.enter f args) w)(H:Ip P f t ti ov s)(ab:0 < s)(hsl:P.underlying t=some (.slice e))(hti:P.underlying ti=some (.int kn))(hsz:∀w,(sizeOf e).run P w= .ok s w)
  (hov:∀args w,(callFunc ov args).run P w=((Extern.SlicesOverlaps.overlaps #[t,t] #[tb] args).run P w).andThen fun v w=> .ok (.value v) w)
  (aiE:P.info? e=some inf) (hz:inf.zero=some z) (his:inf.size=s) (hib:inf.bytes=bytes) (hzs:z.cells.size=s):gZ P S f (amc S e s bytes):=by
 refine⟨aa,?_⟩;intro X N g w args o_ dW p r post keep h ac o hp;unfold amc at o;split at o
 ·rename_i a k i b e1 d1 e2 d2;split at o
  ·rename_i hc;simp only[kW]at hc;obtain⟨c1,c2,c3,c4,T,c6,c7⟩:=hc;have c1:=Qa c1;have c2:=Qa c2;have c3:=Qa c3;have c4:=Qa c4;have T:=Qa T;have c6:=Qa c6;have c7:k= .i64:=by simpa[ZA]using c7
   subst c1 c2 c3 c4 c7;split at o
   ·rename_i dp dq hdp hdq;split at o
    ·rename_i dr hdr;split at o
     ·rename_i d hd;injection o with o
      injection o with q1 I
      injection I with I q3
      injection q3 with q3 q4
      subst q1 I q3 q4;obtain⟨p1,p2,p3,p4,p5⟩:=hp;match args,ac with
      | [A,vi,W],⟨E,Z,L,_⟩=>
       have E:g 0=some A:=E;have L:g 1=some W:=L;have Z:vi= .int .i64 i:=Z;subst Z;have hi0:((i.toNat:Nat):Int)=i:=by omega
       obtain⟨u1,M,hm1,xs,V,x⟩:=h.dW 0 (.row _ d1) rfl;obtain⟨u2,O,hm2,ys,B,K⟩:=h.dW 1 (.row _ d2) rfl;rw[E]at M;rw[L]at O;injection M with M
       injection O with O
       subst M O;rw[T]at V;rw[c6]at B;have hx1:=row_one D ab T V.1 x;have hy1:=row_one D ab c6 B.1 K;have J:∃a n c,A= .slice a n c:=by rcases V.2 with⟨rfl,_⟩ | ⟨b,cp,cur,rfl,_⟩<;>exact⟨_,_,_,rfl⟩
       have hsl2:∃a n c,W= .slice a n c:=by rcases B.2 with⟨rfl,_⟩ | ⟨b,cp,cur,rfl,_⟩<;>exact⟨_,_,_,rfl⟩
       have U:∀b,A.ownBlock=some b->W.ownBlock≠some b:=by
        intro b hb1 hb2;rw[qH A J]at hb1;rw[qH W hsl2]at hb2;exact absurd (h.sep 0 1 A W b rfl rfl E L hb1 hb2) au
       have run:=akP H ab hsl hti hsz hov aiE hz his hib hzs V B U hx1 hy1 (i:=i.toNat) au p3 (by simp only[maxLen];omega) p5;rw[hi0]at run;refine run.mono fun r w' F=> ?_;obtain⟨v',rfl,o',Q,C⟩:=F;have Cj:∃a n c,v'= .slice a n c:=by rcases o'.2 with⟨rfl,_⟩ | ⟨b,cp,cur,rfl,_⟩<;>exact⟨_,_,_,rfl⟩
       rw[qH v' Cj,qH A J]at C;rw[qH A J]at Q;obtain⟨s1,s2,s3⟩:=D.sub _ _ _ _ hdp au au;obtain⟨t1,t2,t3⟩:=D.sub _ _ _ _ hdq au (nO _);obtain⟨k1,k2,k3,k4,k5⟩:=D.cat _ _ _ hdr;obtain⟨j1,j2,j3,j4,j5⟩:=D.cat _ _ _ hd;have hsd:S.size d=s:=by omega
       have R:S.len d=S.len d1+S.len d2:=by omega
       have Y:∀u,More g (upd g 2 (some u)):=by
        intro u q y hq;have:q≠2:=fun e=>absurd (h.al q y hq) (by subst e;simp)
        rw[df _ _ _ _ this];exact hq
       obtain⟨g1,g2,g3⟩:=h.move (l:=0) (fr:=2) (bk':= .row _ d) (v:=A) (v':=v') rfl E qb Q.os Q.tape Q.output Q.size (fun n hn U=>Q.block n hn fun e=>U e.symm)
        (fun b hb'=>by
         grind)
        (fun M' hk _=>by
         refine⟨⟨fun b hb'=> ?_,by rw[R];omega,D.Y_ _ _ _ hd⟩,_,by rw[hsd,R];exact o',fun m j hi' hj=> ?_⟩
         ·rcases C with C | C
          ·grind
          ·rw[hb']at C;injection C with C;exact .inl (C▸h.below.size)
         ·rw[hsd]at hj⊢;rw[R]at hi';have hdt:=D.data d m j au au;have hxl:=V.1;have hyl:=B.1;have m1:i.toNat*s<=S.len d1*s:=Zh _ au;by_cases q1:m < i.toNat
          ·obtain⟨u,hu,_,F⟩:=x m j au au;have hlt:=tu q1 hj;refine⟨u,?_,hdt,?_⟩
           ·grind
           ·rw[j4 m j au,s3 m j au,Dw];exact F.keep hk (Y _)
          ·have m2:m*s=i.toNat*s+(m - i.toNat)*s:=by rw[<-Qbl];congr 1;omega
           rw[Qbd rf,QA,show m*s+j - min (i.toNat*s) xs.length=(m - i.toNat)*s+j by omega];have j5':=j5 (m - i.toNat) j au;rw[show S.len dp+(m - i.toNat)=m by omega]at j5';rw[j5'];by_cases I:m - i.toNat < S.len d2
           ·obtain⟨u,hu,hda,F⟩:=K (m - i.toNat) j I au;have hlt:=tu I hj;refine⟨u,?_,by grind,?_⟩
            ·grind
            ·rw[k4 _ j I];exact F.keep hk (Y _)
           ·obtain⟨u,hu,hda,F⟩:=x (m - S.len d2) j au au;have m3:(m - i.toNat)*s=S.len d2*s+(m - i.toNat - S.len d2)*s:=by rw[<-Qbl];congr 1;omega
            have m4:(m - S.len d2)*s=i.toNat*s+(m - i.toNat - S.len d2)*s:=by rw[<-Qbl];congr 1;omega
            have k5':=k5 (m - i.toNat - S.len d2) j au;rw[show S.len d2+(m - i.toNat - S.len d2)=m - i.toNat by omega]at k5';refine⟨u,?_,by grind,?_⟩
            ·rw[Qbd au,Qco,hyl,show i.toNat*s+((m - i.toNat)*s+j - S.len d2*s)=(m - S.len d2)*s+j by omega,<-T];exact hu
            ·rw[k5',t3 _ j au,show i.toNat+(m - i.toNat - S.len d2)=m - S.len d2 by omega];exact F.keep hk (Y _))
       obtain⟨f1,f2⟩:=g1.aMt 1 none rfl (fun bk hbk=>by cases hbk);have htab:∀G,upd (upd (upd (mQ [Bk.row G d1,Bk.row G d2]) 0 none) 2 (some (Bk.row G d))) 1 none=yE [(2,Bk.row G d)] [] [Bk.row G d1,Bk.row G d2]:=by
        intro G;funext q;match q with
        | 0=>rfl
        | 1=>rfl
        | 2=>rfl
        | q+3=>rfl
       rw[htab]at f1 f2;exact⟨v',_,rfl,g3,f1.weaken fun _ _=>trivial,upd_same _ _ _⟩
     ·cases o
    ·cases o
   ·cases o
  ·cases o
 ·cases o
end
end Go.Vc
namespace Go.Vc
open Go.RowKit
section
variable {D:Type}{P:Program}{S:Sh D}{T:TypeId->Option Ty}{Γ:FuncId->Option (Ct D)}{M M' N:Nat->Prop}{w w':World}{w0:Bs}{g g':Nat->Option Value}{blk:Nat->Option (Bk D)}{al:Nat->Prop}
 {a:Act} {o:Oper} {K:Act->World->Prop} {Q:Exit->Act->World->Prop} {slot:Nat->Sl D} {out:Out D} {fr:Nat} {ids jU:List Nat}
theorem iL {l:Nat}:∀{ids:List Nat},uZ l ids=true ↔ l∈ids
 | []=>by simp[uZ]
 | x::r=>by
  simp only[uZ,Qa9,iL,EC];constructor
  ·rintro(h | h)
   ·exact .inl (Qa h).symm
   ·exact .inr h
  ·rintro(rfl | h)
   ·exact .inl qb
   ·exact .inr h
theorem rG:∀(r ids:List Nat),ids.Nodup->(nM ids r).Nodup
 | [],ids,h=>h
 | l::r,ids,h=>by
  unfold nM;refine rG r _ ?_;split
  ·exact h
  ·rename_i b;rw[List.nodup_append];refine⟨h,by simp,fun x c y a=> ?_⟩;simp at a;subst a;rintro rfl;exact b (iL.2 c)
theorem Fh:∀(n:Nat) (ids:List Nat),ids.Nodup->(reach blk n ids).Nodup
 | 0,ids,h=>h
 | n+1,ids,h=>Fh n _ (rG _ _ h)
theorem tX:∀{r:List Nat},allIn ids r=true->∀l∈r,l∈ids
 | [],_,l,a=>by simp at a
 | x::r,h,l,a=>by
  simp only[allIn,kW]at h;rcases EC.1 a with rfl | a
  ·exact iL.1 h.1
  ·exact tX h.2 l a
theorem qX:∀{ids:List Nat} {a:List (Bk D)},vJ blk ids=some a->a.length=ids.length/\∀(i l:Nat),ids[i]? =some l->∃c,blk l=some c/\a[i]? =some c
 | [],a,h=>by simp[vJ]at h;subst h;simp
 | x::r,a,h=>by
  unfold vJ at h;split at h
  ·rename_i b j f d;injection h with h
   subst h;obtain⟨e,g⟩:=qX d
   grind
  ·cases h
theorem tY:∀{ids:List Nat} {l:Nat},l∈ids->ids[jG ids l]? =some l
 | [],l,h=>by simp at h
 | x::r,l,h=>by
  unfold jG;split
  ·simp_all
  ·rename_i a;have:l∈r:=by
    rcases EC.1 h with rfl | h
    ·simp at a
    ·exact h
   simpa using tY this
theorem FZ (b:ids.Nodup){i l:Nat}(h:ids[i]? =some l):jG ids l=i:=by
 have d:l∈ids:=Qby h;have a:=tY d;have g:=(Qba.1 h).1;have f:=(Qba.1 a).1;have c:=(Qba.1 h).2;have e:=(Qba.1 a).2;exact(List.getElem_inj b).1 (e.trans c.symm)
theorem ahf {f:Nat->Nat}:∀{a:List Nat} {b:List Value},(∀l∈a,∀v,g l=some v->g' (f l)=some v)->a.map g=b.map some->(a.map f).map g'=b.map some
 | [],[],_,_=>rfl
 | c::a,v::b,d,h=>by
  simp only[Kq,Qc5]at h⊢;exact⟨d c qb v h.1,ahf (fun l hl=>d l qcp) h.2⟩
 | [],_::_,_,h=>by simp at h
 | _::_,[],_,h=>by simp at h
theorem Lf.Rel.ren {f:Nat->Nat}{x:Lf D}{v:Value}(h:x.Rel S M w g v)(r:∀l∈x.refs,∀u,g l=some u->g' (f l)=some u)(t:x.ou=true->∀b,M' b->M b):(x.ren f).Rel S M' w g' v:=by
 cases x with
 | ptr l o=>obtain⟨b,m,c⟩:=h;exact⟨b,r l qb7 _ m,c⟩
 | own l=>exact r l qb7 _ h
 | opt l i j y=>obtain⟨b,n,q,m,c⟩:=h;exact⟨b,n,q,r l qb7 _ m,c⟩
 | part l i j y f=>obtain⟨a,n,q,m,c⟩:=h;exact⟨a,n,q,r l qb7 _ m,c⟩
 | glb i=>exact h
 | Ze x=>exact h
 | xt e=>exact Xt.Rel.mono h (t rfl)
 | fn B z=>obtain⟨A,m,c⟩:=h;exact⟨A,m,ahf r c⟩
 | dat d=>exact dN.mono h (t rfl)
 | elt d i j=>obtain⟨a,n,q,m,c⟩:=h;exact⟨a,n,q,m.mono (t rfl),c⟩
 | any=>trivial
 | unk p=>exact h
 | val x=>exact h
 | bool b=>exact h
 | int k n=>exact h
 | str s=>exact h
theorem bu.ren {f:Nat->Nat}:∀{a:List (Lf D)} {d:List Value},bu S M w g a d->(∀l∈a.flatMap Lf.refs,∀u,g l=some u->g' (f l)=some u)->(a.any Lf.ou=true->∀b,M' b->M b)->bu S M' w g' (a.map (Lf.ren f)) d
 | [],[],_,_,_=>trivial
 | x::a,v::d,h,i,c=>by
  simp only[Qc8,Qa9]at c;exact⟨h.1.ren (fun l hl=>i l qcp) (fun e=>c (.inl e)),bu.ren h.2 (fun l hl=>i l rf) (fun e=>c (.inr e))⟩
theorem Sv.Rel.ren {f:Nat->Nat}{x:Sv D}{v:Value}(h:x.Rel S M w g v)(c:∀l∈x.refs,∀u,g l=some u->g' (f l)=some u)(a:x.ou=true->∀b,M' b->M b):(x.ren f).Rel S M' w g' v:=by
 cases x with
 | lf x=>exact Lf.Rel.ren h c a
 | agg j=>obtain⟨e,d,i⟩:=h;exact⟨e,d,i.ren c a⟩
theorem jh.ren {f:Nat->Nat}:∀{a:List (Sv D)} {d:List Value},jh S M w g a d->(∀l∈a.flatMap Sv.refs,∀u,g l=some u->g' (f l)=some u)->(a.any Sv.ou=true->∀b,M' b->M b)->jh S M' w g' (a.map (Sv.ren f)) d
 | [],[],_,_,_=>trivial
 | x::a,v::d,h,i,c=>by
  simp only[Qc8,Qa9]at c;exact⟨h.1.ren (fun l hl=>i l qcp) (fun e=>c (.inl e)),jh.ren h.2 (fun l hl=>i l rf) (fun e=>c (.inr e))⟩
theorem Sl.Rel.ren {f:Nat->Nat}{x:Sl D}{v:Value}(h:x.Rel S M w g v)(c:∀l∈x.refs,∀u,g l=some u->g' (f l)=some u)(a:x.ou=true->∀b,M' b->M b):(x.ren f).Rel S M' w g' v:=by
 cases x with
 | one x=>exact Sv.Rel.ren h c a
 | x8 j=>obtain⟨e,d,i⟩:=h;exact⟨e,d,i.ren c a⟩
theorem KD {f:Nat->Nat}(x:Option (Bk D)):hot (x.map (Bk.ren f))=hot x:=by
 cases x with
 | none=>rfl
 | some a=>cases a<;>rfl
theorem Xm {f:Nat->Nat}{x:Lf D}(h:x.kF=true):x.ren f=x:=by cases x<;>first | rfl | simp[Lf.kF]at h
theorem agb {x:Lf D}(h:x.kF=true):x.refs=[]:=by cases x<;>first | rfl | simp[Lf.kF]at h
theorem zi.ren {f:Nat->Nat}{B B':Bs}{c:Bk D}{v:Value}(h:zi S M w g B c v)(r:∀l∈c.refs,∀u,g l=some u->g' (f l)=some u)(q:c.ou=true->∀b,M' b->M b)
  (k:hot (some c)=true->∀b,fJ v=some b->B'.Mine b):zi S M' w g' B' (c.ren f) v:=by
 cases c with
 | cells cs=>
  obtain⟨b,z,t,rfl,_,a,o⟩:=h;exact⟨b,z,t,rfl,k rfl b rfl,a,o.ren r q⟩
 | row e d=>
  obtain⟨y,F,A,I⟩:=h;refine⟨⟨k rfl,y.2⟩,F,A,fun i j J G=> ?_⟩;obtain⟨u,K,C,H⟩:=I i j J G;have:=H.ren (g':=g') (M':=M') (f:=f) (fun l x=>by rw[agb C]at x;simp at x) (fun _=>q rfl);rw[Xm C]at this
  grind
 | xZ d=>exact dN.mono h (q rfl)
 | iter s p=>
  obtain⟨x,b,rfl,_,a⟩:=h;exact⟨x,b,rfl,k rfl b rfl,a⟩
 | map d=>
  obtain⟨m,b,E,n,y,r,rfl,_,a,o⟩:=h;exact⟨m,b,E,n,y,r,rfl,k rfl b rfl,a,o⟩
 | tc t cs=>
  obtain⟨b,z,rfl,_,a,o⟩:=h;exact⟨b,z,rfl,k rfl b rfl,a,o.ren r q⟩
def Nc (N:Nat->Prop)(a:Nat->Option (Bk D))(g:Nat->Option Value)(ids c:List Nat):Nat->Prop:=
 fun b=>N b\/∃l v,hot (a l)=true/\l∉ids/\l∉c/\g l=some v/\fJ v=some b
def Xc (a:Nat->Option (Bk D))(g:Nat->Option Value)(ids:List Nat):Nat->Prop:=fun b=>∃l v,hot (a l)=true/\l∈ids/\g l=some v/\fJ v=some b
def gc (g:Nat->Option Value)(ids:List Nat):Nat->Option Value:=fun i=>(ids[i]?).bind g
theorem ac9 {l:Nat}(h:l∈ids):gc g ids (jG ids l)=g l:=by simp[gc,tY h]
theorem Hp.mine (h:Hp S w0 N blk g al w){l b:Nat}{v:Value}(d:hot (blk l)=true)(f:g l=some v)(c:fJ v=some b):b < w.heap.size/\w0.Mine b:=by
 obtain⟨i,_,e,a⟩:=h.at d f;exact a.lt e c
theorem Hp.aiH (h:Hp S w0 N blk g al w){l b:Nat}{v:Value}(d:hot (blk l)=true)(f:g l=some v)(c:fJ v=some b):¬N b:=fun a=>by
 obtain⟨i,e⟩:=h.hN b a;rcases(h.mine d f c).2 with q | q
 ·omega
 ·exact e q
theorem adP {b:List (Bk D)}(e:vJ blk ids=some b){f:Nat->Nat}{i:Nat}{c:Bk D}(h:mQ (b.map (Bk.ren f)) i=some c):∃l a,ids[i]? =some l/\blk l=some a/\a∈b/\c=a.ren f:=by
 obtain⟨k,d⟩:=qX e;simp only[mQ,Qbq,Qcb]at h;obtain⟨a,m,rfl⟩:=h;have g:i < ids.length:=by grind
 obtain⟨j,n,o⟩:=d i ids[i] (Qay g)
 grind
theorem wG {q:List (Bk D)}(s:vJ blk ids=some q){f:Nat->Nat}:∀b,bi (Nc N blk g ids jU) (mQ (q.map (Bk.ren f))) (gc g ids) b->bi N blk g b/\(N b\/∃l v,hot (blk l)=true/\l∉jU/\g l=some v/\fJ v=some b\/l∈ids/\hot (blk l)=true/\g l=some v/\fJ v=some b):=by
 rintro b ((k | ⟨l,v,c,n,a,m,p⟩) | ⟨i,v,c,n,a⟩)
 ·exact⟨.inl k, .inl k⟩
 ·exact⟨.inr ⟨l,v,c,m,p⟩, .inr ⟨l,v, .inl ⟨c,a,m,p⟩⟩⟩
 ·obtain⟨u,j,t⟩:=lg c;obtain⟨l,r,o,h,_,rfl⟩:=adP s j;have e:g l=some v:=by simpa[gc,o]using n
  have d:hot (blk l)=true:=by rw[h];have:=KD (f:=f) (some r);grind
  exact⟨.inr ⟨l,v,d,e,a⟩, .inr ⟨l,v, .inr ⟨Qby o,d,e,a⟩⟩⟩
theorem Hp.lend (h:Hp S w0 N blk g al w){o:List (Bk D)}(C:ids.Nodup)(m:vJ blk ids=some o)(q:∀I∈o,∀l∈I.refs,l∈ids)(hv:∀l∈jU,l∉ids):
  Hp S ⟨w,Xc blk g ids⟩ (Nc N blk g ids jU) (mQ (o.map (Bk.ren (jG ids)))) (gc g ids) (· < (o.map (Bk.ren (jG ids))).length) w:=by
 obtain⟨P,ad⟩:=qX m;refine⟨Gg.refl ⟨w,Xc blk g ids⟩,?_,?_,?_,?_,?_,h.gl.mono fun b c=>(wG m b c).1⟩
 ·rintro b (c | ⟨l,v,r,T,K,p,J⟩)
  ·refine⟨h.mlt (.inl c),?_⟩;rintro⟨l,v,r,T,K,p⟩;exact h.aiH r K p c
  ·refine⟨h.mlt (.inr ⟨l,v,r,p,J⟩),?_⟩;rintro⟨k,Q,U,q2,X,O⟩;have:=h.sep l k v Q b r U p X J O
   grind
 ·intro i I a;obtain⟨l,t,d,n,x,rfl⟩:=adP m a;obtain⟨v,s,H⟩:=h.dW l t n;refine⟨v,by simp[gc,d,s],H.ren (fun k e u M=> ?_) (fun _ b c=>(wG m b c).1) (fun hh b c=> .inr ⟨l,v,by grind,Qby d,s,c⟩)⟩;rw[ac9 (q _ x k e)];exact M
 ·intro i j Y V b a W E y B z;obtain⟨ag,A,ac⟩:=lg a;obtain⟨ab,G,aa⟩:=lg W;obtain⟨l,t,d,n,_,rfl⟩:=adP m A;obtain⟨k,F,e,L,_,rfl⟩:=adP m G;have R:hot (blk l)=true:=by rw[n];have:=KD (f:=jG ids) (some t);grind
  have Z:hot (blk k)=true:=by rw[L];have:=KD (f:=jG ids) (some F);grind
  have:=h.sep l k Y V b R Z (by simpa[gc,d]using E) (by simpa[gc,e]using y) B z;subst this;rw[<-FZ C d,<-FZ C e]
 ·intro i v a;simp only[gc]at a
  grind
 ·intro i v a;simp only[gc]at a;cases d:ids[i]? with
  | none=>grind
  | some l=>rw[d]at a;exact h.refs l v a
end
end Go.Vc
namespace Go.Vc
open Go.RowKit
section
variable {D:Type}{P:Program}{S:Sh D}{T:TypeId->Option Ty}{Γ:FuncId->Option (Ct D)}{M M' N:Nat->Prop}{w w':World}{w0:Bs}{g g':Nat->Option Value}{blk blk':Nat->Option (Bk D)}{al:Nat->Prop}
 {a:Act} {o:Oper} {K:Act->World->Prop} {Q:Exit->Act->World->Prop} {slot:Nat->Sl D} {out:Out D} {fr:Nat} {ids jU:List Nat}
theorem MX (h:Hp S w0 N blk g al w){c:Nat}{e:TypeId}{d:D}{v:Value}{M':Nat->Prop}(K:blk c=some (.row e d))(O:g c=some v)(H:∀b,M' b->bi N blk g b)(J:∀b,fJ v=some b->¬M' b):
  dN S M' w d v:=by
 intro w' z;obtain⟨V,n,t,U,y,q⟩:=h.dW c _ K;rw[O]at n;injection n with n
 subst n;rcases y.2 with⟨rfl,T⟩ | ⟨b,A,o,rfl,_,C,E,_,Q,G⟩
 ·have:=Cf.mk (S:=S) (w:=w') d t.2.2 none 0 (fun _ _=> .bool false) au au (fun i j a _=>by omega) (fun i j a _=>by omega) (fun i j _ a _=>by omega)
  grind
 ·have F:w'.heap[b]? =some (.cells o e (0,0)):=(z b (G5 C) (J b rfl)).trans C;have p:∀i j,i < S.len d->j < S.size d->∃u,o[i*S.size d+j]? =some u/\Lf.plain (S.cell d i j) u/\∀r,S.cell d i j= .dat r->Cf S w' r u:=by
   intro i j a m;obtain⟨u,k,s,P⟩:=q i j a m;have R:=tu a m;have:o[i*S.size d+j]? =some u:=by
    grind
   have B:(S.cell d i j).Rel S M' w g u:=by
    have:=P.ren (g':=g) (M':=M') (f:=fun x=>x) (fun l _ u k=>k) (fun _=>H);rw[Xm s]at this;exact this
   exact⟨u,this,Jo s B z⟩
  refine Cf.mk (S:=S) (w:=w') d t.2.2 (some ⟨b,0,none⟩) A (fun i j=>(o[i*S.size d+j]?).getD undef) E t.2.1 (fun i j a m=> ?_) (fun i j a m=> ?_) (fun i j r a m I=> ?_)
  ·obtain⟨u,k,_⟩:=p i j a m;refine⟨_,rfl,?_⟩;simp only[k,Qdg];rw[l_,Dw];simp[World.cell?,F,<-k]
  ·obtain⟨u,k,L,_⟩:=p i j a m;simpa[k]using L
  ·obtain⟨u,k,_,M⟩:=p i j a m;simpa[k]using M r I
theorem aoF (r:∀d m,S.mp d=some m->S.len d=0/\S.size d=0)(h:Hp S w0 N blk g al w){c:Nat}{d:D}{v:Value}{i:Nat->Prop}(q:blk c=some (.map d))(t:g c=some v)(l:∀b,fJ v=some b->¬i b):
  dN S i w d v:=by
 intro w' k;obtain⟨x,a,m,b,p,n,e,o,rfl,_,f,j⟩:=h.dW c _ q;rw[t]at a;injection a with a
 subst a;obtain⟨s,u⟩:=r _ _ e;exact .mp d m _ e s u ⟨o, .inr ⟨b,p,n,rfl,(k b (G5 f) (l b rfl)).trans f,j⟩⟩
theorem Uf {a:Option (Bk D)}{d:D}(h:rwD a=some d):hot a=true:=by
 unfold rwD at h;split at h<;>first | rfl | cases h
theorem ajd (n:jE S)(h:Hp S w0 N blk g al w){c:Nat}{d:D}{v:Value}{f:Nat->Prop}(a:rwD (blk c)=some d)(k:g c=some v)(p:∀b,f b->bi N blk g b)(j:∀b,fJ v=some b->¬f b):
  dN S f w d v:=by
 unfold rwD at a;split at a
 ·rename_i e o i;injection a with a
  subst a;exact MX h i k p j
 ·rename_i o i;injection a with a
  subst a;exact aoF (fun d m l=>⟨(n.A7 d m l).1,(n.A7 d m l).2.1⟩) h i k j
 ·cases a
def yu (g b:Nat->Option Value)(ids:List Nat)(a:Nat):Nat->Option Value:=fun l=>
 match g l with
 | some u=>some u
 | none=>if a<=l/\l < a+64 then b (ids.length+(l - a))else none
theorem C9 {a:Nat->Option Value}:More g (yu g a ids fr):=fun l v b=>by simp[yu,b]
structure Back (blk blk':Nat->Option (Bk D))(tab:Nat->Option (Bk D))(ids jU:List Nat)(fr:Nat)(fz:Bool):Prop where
 b1:∀l∈ids,blk' l=(tab (jG ids l)).map (Bk.ren (backTo ids fr))
 b2:∀j,j < 64->blk' (fr+j)=(tab (ids.length+j)).map (Bk.ren (backTo ids fr))
 b3:∀l∈jU,fz=true->(∃d,rwD (blk l)=some d/\blk' l=some (.xZ d))\/(hot (blk l)=false/\blk' l=blk l)
 b4:∀l,l∉ids->(fz=true->l∉jU)->¬(fr<=l/\l < fr+64)->blk' l=blk l
theorem Hp.back (hS:jE S)(h:Hp S w0 N blk g al w){dW:List (Bk D)}{r:Nat->Option (Bk D)}{m:Nat->Option Value}{fz:Bool}(hfr:∀n,fr<=n->n < fr+64->¬al n)(G:ids.Nodup)(hg:vJ blk ids=some dW)(hv:∀l∈jU,l∉ids)
  (hm:More (gc g ids) m) (F:Hp S ⟨w,Xc blk g ids⟩ (Nc N blk g ids jU) (r) m (fun _=>True) w') (R:Back blk blk' r ids jU fr fz)
  (aNM:∀i,(r i).isSome=true->i < ids.length+64) (hrefs:∀i a,r i=some a->∀l∈a.refs,(r l).isSome=true) (hfz:∀i a,r i=some a->a.ou=true->fz=true):
  Hp S w0 N blk' (yu g m ids fr) (fun n=>al n\/(fr<=n/\n < fr+64)) w'/\Keeps (bi N blk g) w (bi N blk' (yu g m ids fr)) w'/\
   (fz=true->∀b,bi N blk' (yu g m ids fr) b->bi (Nc N blk g ids jU) (r) m b)/\
   ∀i,(r i).isSome=true->∀u,m i=some u->yu g m ids fr (backTo ids fr i)=some u:=by
 obtain⟨hlen,hat⟩:=qX hg;have aMx:∀l∈ids,∃u,g l=some u:=fun l o=>by
  obtain⟨a,E,_⟩:=hat _ l (tY o);obtain⟨v,hv,_⟩:=h.dW l a E
  grind
 have glt:∀l u,g l=some u->¬(fr<=l/\l < fr+64):=fun l u o hle=>hfr l hle.1 hle.2 (h.al l u o)
 have aMw:∀l,fr<=l->l < fr+64->g l=none:=fun l o hl2=>by
  cases e:g l with
  | none=>rfl
  | some u=>grind
 have gb:∀i,(r i).isSome=true->∀u,m i=some u->yu g m ids fr (backTo ids fr i)=some u:=by
  intro i hi u U;unfold backTo;by_cases W:i < ids.length
  ·rw[yY (by simp_all)];have o:ids[i]? =some (ids.getD i 0):=by grind
   obtain⟨u0,hu0⟩:=aMx _ (Qby o);have:m i=some u0:=hm i u0 (by unfold gc;grind);rw[this]at U;injection U with U
   subst U;exact C9 _ _ hu0
  ·rw[yc (by simp_all)];have:=aNM i hi;simp only[yu,aMw (fr+(i - ids.length)) au au]
   grind
 have y:∀l a,blk' l=some a->(∃i x,r i=some x/\a=x.ren (backTo ids fr)/\l=backTo ids fr i)\/
   (l∉ids/\¬(fr<=l/\l < fr+64)/\blk l=some a/\(hot (some a)=true->fz=true->l∉jU))\/(fz=true/\l∈jU/\∃d,rwD (blk l)=some d/\a= .xZ d):=by
  intro l a o;by_cases s:l∈ids
  ·rw[R.b1 l s]at o;obtain⟨x,c,rfl⟩:=Qcb.1 o;refine .inl ⟨_,x,c,rfl,?_⟩;unfold backTo;have:=tY s;have W:=(Qba.1 this).1;simp_all
  ·by_cases z:fr<=l/\l < fr+64
   ·obtain⟨j,rfl⟩:∃j,l=fr+j:=⟨l - fr,by omega⟩;rw[R.b2 j au]at o;obtain⟨x,c,rfl⟩:=Qcb.1 o;refine .inl ⟨_,x,c,rfl,?_⟩;unfold backTo;rw[yc (by simp_all)];omega
   ·by_cases p:fz=true/\l∈jU
    ·rcases R.b3 l p.2 p.1 with⟨d,c,L⟩ | ⟨c,L⟩
     ·rw[L]at o;injection o with o
      exact .inr (.inr ⟨p.1,p.2,d,c,o.symm⟩)
     ·rw[L]at o;obtain⟨u,U,_⟩:=h.dW l a o;exact .inr (.inl ⟨s,glt l u U,o,fun t=>by rw[o]at c;rw[c]at t;cases t⟩)
    ·have q:=R.b4 l s (fun e hm=>p ⟨e,hm⟩) z
     grind
 have afd:∀(f:Nat->Nat) (a:Bk D),hot (some (a.ren f))=hot (some a):=fun f a=>by cases a<;>rfl
 have left:∀i a v b,r i=some a->hot (some a)=true->m i=some v->fJ v=some b->b < w'.heap.size/\(w.heap.size<=b\/Xc blk g ids b):=by
  intro i a v b s z p C;exact F.mine rf p C
 have xm:∀b,Xc blk g ids b->bi N blk g b:=fun b ⟨l,v,s,z,p,C⟩=> .inr ⟨l,v,s,p,C⟩
 have aM8:∀b,Xc blk g ids b->w0.Mine b:=fun b ⟨l,v,s,z,p,C⟩=>(h.mine s p C).2
 have aNW:∀l v b,hot (blk l)=true->l∉ids->g l=some v->fJ v=some b->¬Xc blk g ids b:=by
  rintro l v b s z p C ⟨A,I,c,L,q3,q4⟩;have:=h.sep l A v I b s c p q3 C q4
  grind
 have H:∀b,b < w.heap.size->¬Xc blk g ids b->w'.heap[b]? =w.heap[b]? :=fun b s z=>F.below.block b s z
 have O:∀l,¬(fr<=l/\l < fr+64)->yu g m ids fr l=g l:=fun l o=>by
  unfold yu
  grind
 have aN_:∀l a,blk l=some a->∃v,g l=some v:=fun l a o=>by obtain⟨v,hv,_⟩:=h.dW l a o;grind
 have afa:∀i a,r i=some a->∃v,m i=some v/\yu g m ids fr (backTo ids fr i)=some v:=fun i a hi=>by
  obtain⟨v,hv,_⟩:=F.dW i a hi
  grind
 have hk:Keeps (bi N blk g) w (bi N blk' (yu g m ids fr)) w':=by
  refine⟨F.below.size,fun b W T=>⟨?_,H b W fun q=>T (xm b q)⟩⟩;rintro(M | ⟨l,v,s,z,p⟩)
  ·exact T (.inl M)
  ·obtain⟨a,E,t⟩:=lg s;rcases y l a E with⟨i,x,c,rfl,rfl⟩ | ⟨c,L,q3,_⟩ | ⟨_,_,d,_,rfl⟩
   ·grind
   ·rw[O l L]at z;exact T (.inr ⟨l,v,by grind,z,p⟩)
   ·simp[hot]at t
 have Z:fz=true->∀b,bi N blk' (yu g m ids fr) b->bi (Nc N blk g ids jU) (r) m b:=by
  rintro hz b (M | ⟨l,v,s,z,p⟩)
  ·exact .inl (.inl M)
  ·obtain⟨a,E,t⟩:=lg s;rcases y l a E with⟨i,x,c,rfl,rfl⟩ | ⟨c,L,q3,q4⟩ | ⟨_,_,d,_,rfl⟩
   ·obtain⟨v0,X,Q⟩:=afa i x c;rw[z]at Q;injection Q with Q
    subst Q;rw[afd]at t;exact .inr ⟨i,v,by grind,X,p⟩
   ·rw[O l L]at z;exact .inl (.inr ⟨l,v,by grind,c,q4 t hz,z,p⟩)
   ·simp[hot]at t
 refine⟨⟨⟨F.below.os.trans h.below.os,F.below.tape.trans h.below.tape,F.below.output.trans h.below.output,yI h.below.size F.below.size,fun k hk' hx=> ?_⟩,h.hN,fun l a o=> ?_,?_,?_,?_,h.gl.keep hk⟩,hk,Z,gb⟩
 ·refine(H k (Qb5 hk' h.below.size) fun q=> ?_).trans (h.below.block k hk' hx);rcases aM8 k q with q | q
  ·omega
  ·exact hx q
 ·rcases y l a o with⟨i,x,c,rfl,rfl⟩ | ⟨c,L,q3,q4⟩ | ⟨hz,hlv,d,q,rfl⟩
  ·obtain⟨v,X,hok⟩:=F.dW i x c;refine⟨v,gb i (by rw[c];rfl) v X,hok.ren (fun A hl' u U=>gb A (hrefs i x c A hl') u U) (fun hd=>Z (hfz i x c hd)) (fun t b hbv=> ?_)⟩;rcases(left i x v b c t X hbv).2 with q | q
   ·exact .inl (yI h.below.size q)
   grind
  ·obtain⟨v,K,hok⟩:=h.dW l a q3;refine⟨v,by grind,hok.keep hk C9 fun t b hbv=> ?_⟩;have J:hot (blk l)=true:=by grind
   exact H b (h.mine J K hbv).1 (aNW l v b J c K hbv)
  ·have hq:=Uf q;obtain⟨bkq,hbq,_⟩:=lg hq;obtain⟨v,K,_⟩:=h.dW l _ hbq;refine⟨v,C9 _ _ K,?_⟩;have hd0:dN S (fun b=>bi N blk g b/\fJ v≠some b) w d v:=ajd hS h q K (fun b R=>R.1) (fun b R hb'=>hb'.2 R);refine hd0.keep ⟨F.below.size,fun b W T=>⟨fun hb'=> ?_,H b W fun hx=> ?_⟩⟩
   ·
    have hmem:=Z hz b hb';by_cases hvb:fJ v=some b
    ·rcases hmem with(M | ⟨A,I,Y,r2,r3,r4,r5⟩) | ⟨i,I,Y,r2,r3⟩
     ·exact h.aiH hq K hvb M
     ·have:=h.sep l A v I b hq Y K r4 hvb r5
      grind
     ·obtain⟨a,E,t⟩:=lg Y
      grind
    ·exact T ⟨by
      rcases hmem with(M | ⟨A,I,Y,r2,r3,r4,r5⟩) | ⟨i,I,Y,r2,r3⟩
      ·exact .inl M
      ·exact .inr ⟨A,I,Y,r4,r5⟩
      ·obtain⟨a,E,t⟩:=lg Y
       grind,hvb⟩
   grind
 ·intro l A v I b s z p C h5 h6;obtain⟨a,E,t⟩:=lg s;obtain⟨bk',hbk',V⟩:=lg z;rcases y l a E with⟨i,x,c,rfl,rfl⟩ | ⟨c,L,q3,q4⟩ | ⟨_,_,d,_,rfl⟩
  ·obtain⟨v0,X,Q⟩:=afa i x c;rw[p]at Q;injection Q with Q
   subst Q;rw[afd]at t;rcases y A bk' hbk' with⟨i',alM,P,rfl,rfl⟩ | ⟨P,q2',q3',q4'⟩ | ⟨_,_,d,_,rfl⟩
   ·obtain⟨v0',e1',B⟩:=afa i' alM P;rw[C]at B;injection B with B
    subst B;rw[afd]at V;rw[F.sep i i' v I b rf rf X e1' h5 h6]
   ·rw[O A q2']at C;have J:hot (blk A)=true:=by grind
    rcases(left i x v b c t X h5).2 with q | q
    ·have:=(h.mine J C h6).1;omega
    grind
   ·simp[hot]at V
  ·rw[O l L]at p;have J:hot (blk l)=true:=by grind
   rcases y A bk' hbk' with⟨i',alM,P,rfl,rfl⟩ | ⟨P,q2',q3',q4'⟩ | ⟨_,_,d,_,rfl⟩
   ·obtain⟨v0',e1',B⟩:=afa i' alM P;rw[C]at B;injection B with B
    subst B;rw[afd]at V;rcases(left i' alM I b P V e1' h6).2 with q | q
    ·have:=(h.mine J p h5).1;omega
    grind
   ·rw[O A q2']at C;exact h.sep l A v I b J rf p C h5 h6
   ·simp[hot]at V
  ·simp[hot]at t
 ·intro n u G;unfold yu at G;split at G
  ·rename_i u' hu';exact .inl (h.al n u' hu')
  grind
 ·intro n u G;unfold yu at G;split at G
  ·rename_i u' hu';injection G with G;subst G;exact h.refs n _ hu'
  ·split at G
   ·exact F.refs _ _ G
   ·cases G
end
end Go.Vc
namespace Go.Vc
open Go.RowKit
section
variable {D:Type}{P:Program}{S:Sh D}{T:TypeId->Option Ty}{Γ:FuncId->Option (Ct D)}{M M' N:Nat->Prop}{w w':World}{w0:Bs}{g g':Nat->Option Value}{blk blk':Nat->Option (Bk D)}{al:Nat->Prop}
 {a:Act} {o:Oper} {K:Act->World->Prop} {Q:Exit->Act->World->Prop} {slot:Nat->Sl D} {out:Out D} {fr:Nat} {ids jU:List Nat}
theorem aF8 {i n:Nat}(h:n<=i):Nat.blt i n=false:=by
 cases e:Nat.blt i n with
 | false=>rfl
 | true=>
  have:i < n:=Qcv▸e;omega
theorem yx {b:Type}{k:Nat}:∀{a:List (Nat×b)} {f:Nat->b},(∀v,(k,v)∉a)->mM f a k=f k
 | [],_,_=>rfl
 | (e,c)::r,f,h=>by
  show mM (upd f e c) r k=f k
  rw[yx fun v d=>h v (Qb9 _ d)];exact df _ _ _ _ rf
theorem TP {d:Type}{k:Nat}{v:d}:∀{c:List (Nat×d)} {f:Nat->d},(k,v)∈c->(∀a,(k,a)∈c->a=v)->mM f c k=v
 | [],_,h,_=>by simp at h
 | (o,m)::r,f,h,e=>by
  show mM (upd f o m) r k=v
  by_cases i:∃a,(k,a)∈r
  ·obtain⟨a,b⟩:=i;have:=e a (Qb9 _ b);subst this;exact TP b fun g j=>e g (Qb9 _ j)
  ·rw[yx fun a b=>i ⟨a,b⟩];rcases EC.1 h with h | h
   ·injection h with l n
    subst l n;exact upd_same _ _ _
   grind
theorem ul:∀{l:List (Nat×Bk D)} {i:Nat} {a:Bk D},lW l i=some a->(i,a)∈l
 | [],i,a,h=>by simp[lW]at h
 | (k,v)::r,i,a,h=>by
  unfold lW at h;split at h
  ·simp_all
  ·exact Qb9 _ (ul h)
theorem X0:∀{l:List (Nat×Bk D)} {i:Nat} {a:Bk D},nodupB l=true->(i,a)∈l->lW l i=some a
 | [],i,a,_,h=>by simp at h
 | (k,v)::r,i,a,b,h=>by
  simp only[nodupB,kW,Qa7,Qc]at b;unfold lW;rcases EC.1 h with h | h
  ·simp_all
  ·have c:Nat.beq k i=false:=by
    have:=b.1 _ h;simp only[Qdv]at this;cases e:Nat.beq k i with
    | false=>rfl
    | true=>
     simp_all
   rw[c];exact X0 b.2 h
theorem acr {l:List (Nat×Bk D)}{i:Nat}(h:i∈l.map (·.1)):(lW l i).isSome=true:=by
 induction l with
 | nil=>simp at h
 | cons p r b=>
  obtain⟨k,v⟩:=p;unfold lW;split
  ·rfl
  ·rename_i a;simp only[Kq,EC]at h;rcases h with rfl | h
   ·simp at a
   ·exact b h
theorem JB {k:Nat}:∀{l:List (Nat×Bk D)},TF k l=true->∀i a,(i,a)∈l->i < k+64
 | [],_,i,a,h=>by simp at h
 | (j,v)::r,b,i,a,h=>by
  simp only[TF,kW]at b;rcases EC.1 h with h | h
  ·simp_all
  ·exact JB b.2 i a h
theorem iY.ren {f:Nat->Nat}:∀{a:List (Sl D)} {b:List Value},iY S M w g a b->(∀l∈a.flatMap Sl.refs,∀u,g l=some u->g' (f l)=some u)->iY S M w g' (a.map (Sl.ren f)) b
 | [],[],_,_=>trivial
 | x::a,v::b,h,c=>⟨h.1.ren (fun l hl=>c l qcp) (fun _ _ d=>d),iY.ren h.2 (fun l hl=>c l rf)⟩
theorem Lf.U5 {f h:Nat->Nat}{x:Lf D}(b:∀l∈x.refs,h (f l)=l):(x.ren f).ren h=x:=by
 cases x with
 | ptr l o=>simp only[Lf.ren];rw[b l qb7]
 | own l=>simp only[Lf.ren];rw[b l qb7]
 | opt l i j d=>simp only[Lf.ren];rw[b l qb7]
 | part l i j d f=>simp only[Lf.ren];rw[b l qb7]
 | fn g a=>
  simp only[Lf.ren,Qc3];have:a.map (h∘f)=a:=by
   have:=Qbb (l:=a) (f:=h∘f) (g:=id) fun l c=>b l c
   simp_all
  rw[this]
 | _=>rfl
theorem Bk.U5 {f h:Nat->Nat}{b:Bk D}(i:∀l∈b.refs,h (f l)=l):(b.ren f).ren h=b:=by
 cases b with
 | cells cs=>
  simp only[Bk.ren,Qc3];have:cs.map (Lf.ren h∘Lf.ren f)=cs:=by
   have:=Qbb (l:=cs) (f:=Lf.ren h∘Lf.ren f) (g:=id) fun x a=>Lf.U5 fun l c=>i l (zA.2 ⟨x,a,c⟩)
   simp_all
  rw[this]
 | row e d=>rfl
 | xZ d=>rfl
 | iter s p=>rfl
 | map j=>rfl
 | tc t cs=>
  simp only[Bk.ren,Qc3];have:cs.map (Lf.ren h∘Lf.ren f)=cs:=by
   have:=Qbb (l:=cs) (f:=Lf.ren h∘Lf.ren f) (g:=id) fun x a=>Lf.U5 fun l c=>i l (zA.2 ⟨x,a,c⟩)
   simp_all
  rw[this]
theorem asV {l:Nat}(h:l∈ids):backTo ids fr (jG ids l)=l:=by
 unfold backTo;have:=tY h;have a:=(Qba.1 this).1;simp_all
theorem xy {f:FuncId}{ct:Ct D}{args:List (Sl D)}{I:List Value}(hS:jE S)(hok:gZ P S f ct)(h:Hp S w0 N blk g al w)(hfr:∀n,fr<=n->n < fr+64->¬al n)
  (W:∀ids z,vJ blk ids=some z->(∀l∈jU,l∉ids)->iY S (bi (Nc N blk g ids jU) (mQ (z.map (Bk.ren (jG ids)))) (gc g ids)) w g args I)
  (hvl:∀l∈jU,∃u,g l=some u) (hvr:∀l∈jU,(∃d,rwD (blk l)=some d)\/hot (blk l)=false\/l∈args.flatMap Sl.refs) (k:DY ct blk fr args jU=some out) (hp:nJ out.pre):
  Calls P f I.toArray w fun e X=>∃v g',e= .returned v/\More g g'/\Keeps (bi N blk g) w (bi N (mM blk out.blks) g') X/\Hp S w0 N (mM blk out.blks) g' (fun n=>al n\/(fr<=n/\n < fr+64)) X/\
   out.val.Rel S (bi N (mM blk out.blks) g') X g' v:=by
 unfold DY at k;generalize aiD:reach blk 3 (nM [] (args.flatMap Sl.refs))=ids at k;dsimp only at k;have hnd:ids.Nodup:=by rw[<-aiD];exact Fh 3 _ (rG _ _ Qd3)
 split at k
 ·cases k
 ·rename_i z L;split at k
  ·rename_i hc;simp only[kW,Qa7,Qc]at hc;obtain⟨⟨c1,c2⟩,c3⟩:=hc;have c1:=tX c1;have c2:∀c∈z,∀l∈c.refs,l∈ids:=fun c s l m=>tX c2 l (zA.2 ⟨c,s,m⟩)
   have Q:∀l∈jU,l∉ids:=fun l m B=>c3 l m (iL.2 B)
   split at k
   ·rename_i p r b a hct;split at k
    ·rename_i Y;simp only[kW]at Y;obtain⟨⟨⟨⟨⟨k1,k2⟩,k3⟩,k4⟩,k5⟩,k6⟩:=Y;have k6:∀i∈a,i < ids.length/\i∉b.map (·.1):=fun i C=>by
      have:=Qa2.1 k6 i C;simp only[kW,Qa7]at this;refine⟨by simp_all,fun B=> ?_⟩;rw[iL.2 B]at this;simp at this
     have hlen:(z.map (Bk.ren (jG ids))).length=ids.length:=by rw[Qb0];exact(qX L).1
     have K:∀i,i∉a->yE b a (z.map (Bk.ren (jG ids))) i=lW b i:=fun i C=>by
      unfold yE;cases A:lW b i with
      | some c=>rfl
      | none=>
       have:uZ i a=false:=by
        cases B:uZ i a with
        | false=>rfl
        | true=>exact absurd (iL.1 B) C
       simp[this]
     have R:∀i,i∈a->yE b a (z.map (Bk.ren (jG ids))) i=(z.map (Bk.ren (jG ids)))[i]? :=fun i C=>by
      unfold yE;have:lW b i=none:=by
       cases A:lW b i with
       | none=>rfl
       | some c=>exact absurd (MN.2 ⟨_,ul A,rfl⟩) (k6 i C).2
      rw[this,iL.2 C];rfl
     have O:∀i,i∈b.map (·.1)++a->(yE b a (z.map (Bk.ren (jG ids))) i).isSome=true:=fun i C=>by
      by_cases t:i∈a
      ·grind
      ·rw[K i t];rcases yH.1 C with q | q
       ·exact acr q
       grind
     injection k with k
     have hpre:nJ p:=by grind
     have m:=h.lend hnd L c2 Q (jU:=jU);have hrel:=(W ids z L Q).ren (g':=gc g ids) (f:=jG ids) (fun l m u Z=>by rw[ac9 (c1 l m)];exact Z);refine(hok.calls _ _ _ w I _ _ p r b a m hrel hct hpre).mono ?_;rintro e X ⟨v,gc',rfl,B,hc',hr⟩;have glt:∀l u,g l=some u->¬(fr<=l/\l < fr+64):=fun l u m hle=>hfr l hle.1 hle.2 (h.al l u m)
     have blt:∀l c,blk l=some c->¬(fr<=l/\l < fr+64):=fun l c m=>by obtain⟨u,Z,_⟩:=h.dW l c m;grind
     have aOl:∀l∈ids,¬(fr<=l/\l < fr+64):=fun l m=>by
      obtain⟨c,s,_⟩:=(qX L).2 _ l (tY m)
      grind
     let H:Bool:=r.ou || b.any (fun q=>q.2.ou) || a.any (fun i=>auH (z.map (Bk.ren (jG ids))) i)
     have inA:∀l x,(l,x)∈((ids.filter fun l=> !uZ (jG ids l) a).map fun l=>(l,(lW b (jG ids l)).map (Bk.ren (backTo ids fr))))->l∈ids/\jG ids l∉a/\x=(lW b (jG ids l)).map (Bk.ren (backTo ids fr)):=by
      intro l x o;obtain⟨l',hl',U⟩:=MN.1 o;injection U with e1 e2
      subst e1;obtain⟨F,G⟩:=Qbj.1 hl';refine⟨F,fun B=> ?_,e2.symm⟩;rw[iL.2 B]at G;simp at G
     have inB:∀l x,(l,x)∈((b.filter fun q=> !Nat.blt q.1 ids.length).map fun q=>(backTo ids fr q.1,some (q.2.ren (backTo ids fr))))->∃i c,(i,c)∈b/\ids.length<=i/\i < ids.length+64/\l=fr+(i - ids.length)/\x=some (c.ren (backTo ids fr)):=by
      intro l x o;obtain⟨⟨i,c⟩,Y,U⟩:=MN.1 o;obtain⟨M,T⟩:=Qbj.1 Y;injection U with e1 e2
      have T:¬i < ids.length:=fun hlt=>by
       rw[show Nat.blt i ids.length=true from Qcv▸hlt]at T;simp at T
      refine⟨i,c,M,by omega,JB k1 i c M,?_,e2.symm⟩;rw[<-e1];simp only[backTo]
      grind
     have inC:∀l x,(l,x)∈(if H then jU.filterMap (jM blk)else([]:List (Nat×Option (Bk D))))->H=true/\l∈jU/\∃d,rwD (blk l)=some d/\x=some (.xZ d):=by
      intro l x o;by_cases hz:H=true
      ·rw[yY hz]at o;obtain⟨l',hl',U⟩:=Qdp.1 o;unfold jM at U
       grind
      grind
     have J:out.blks=((ids.filter fun l=> !uZ (jG ids l) a).map fun l=>(l,(lW b (jG ids l)).map (Bk.ren (backTo ids fr))))++(b.filter fun q=> !Nat.blt q.1 ids.length).map (fun q=>(backTo ids fr q.1,some (q.2.ren (backTo ids fr))))++
      (if H then jU.filterMap (jM blk)else[]):=by
      rw[<-k]
     have E:∀l x,(l,x)∈out.blks->(l∈ids/\jG ids l∉a/\x=(lW b (jG ids l)).map (Bk.ren (backTo ids fr)))\/(∃i c,(i,c)∈b/\ids.length<=i/\i < ids.length+64/\l=fr+(i - ids.length)/\x=some (c.ren (backTo ids fr)))\/(H=true/\l∈jU/\∃d,rwD (blk l)=some d/\x=some (.xZ d)):=by
      intro l x o;rw[J]at o;rcases yH.1 o with o | o
      ·grind
      grind
     have hB:Back blk (mM blk out.blks) (yE b a (z.map (Bk.ren (jG ids)))) ids jU fr H:=by
      refine⟨fun l m=> ?_,fun j hj=> ?_,fun l m hz=> ?_,fun l h1 h2 h3=> ?_⟩
      ·by_cases t:jG ids l∈a
       ·obtain⟨c,F,G⟩:=(qX L).2 _ l (tY m);rw[R _ t,Qbq,G];simp only[YJ];rw[Bk.U5 fun r hr=>asV (c2 c (Qby G) r hr),<-F];refine yx fun x o=> ?_
        grind
       rw[K _ t];refine TP (by
        rw[J];refine Qbx _ (Qbx _ (MN.2 ⟨l,Qbj.2 ⟨m,?_⟩,rfl⟩));cases B:uZ (jG ids l) a with
        | false=>rfl
        | true=>exact absurd (iL.1 B) t) fun x o=> ?_
       grind
      ·rw[K _ fun t=>by grind];cases A:lW b (ids.length+j)with
       | none=>
        rw[yx]
        ·cases hb:blk (fr+j)with
         | none=>rfl
         | some c=>grind
        ·intro x o;rcases E _ x o with⟨q,_⟩ | ⟨i,c,F,G,q3,q4,_⟩ | ⟨_,_,d,q,_⟩
         ·grind
         ·have:i=ids.length+j:=by omega
          subst this;rw[X0 k2 F]at A;cases A
         ·obtain⟨bkr,V,_⟩:=lg (Uf q);exact blt _ _ V au
       | some c=>
        refine TP (by
         rw[J];refine Qbx _ (Qb4 _ (MN.2 ⟨(ids.length+j,c),Qbj.2 ⟨ul A,by rw[aF8 (Nat.le_add_right _ _)];rfl⟩,?_⟩));simp only[backTo,YJ];rw[yc (by simp[Qcv])];congr 1;omega) fun x o=> ?_
        rcases E _ x o with⟨q,_⟩ | ⟨i,bk',F,G,q3,q4,q5⟩ | ⟨_,_,d,q,_⟩
        ·grind
        ·have:i=ids.length+j:=by omega
         subst this;rw[X0 k2 F]at A
         grind
        grind
      ·by_cases y:∃d,rwD (blk l)=some d
       ·obtain⟨d,y⟩:=y;obtain⟨bkr,V,_⟩:=lg (Uf y);refine .inl ⟨d,y,TP (by
         rw[J,yY hz];exact Qb4 _ (Qdp.2 ⟨l,m,by unfold jM;rw[y]⟩)) fun x o=> ?_⟩
        rcases E _ x o with⟨q,_⟩ | ⟨i,bk',F,G,q3,q4,q5⟩ | ⟨_,_,d',q,q'⟩
        ·exact absurd q (Q l m)
        ·exact absurd au (blt _ _ V)
        ·rw[y]at q;injection q with q
         rw[q',q]
       ·have hnot:hot (blk l)=false:=by
         grind
        by_cases hfl:fr<=l/\l < fr+64
        ·grind
        ·refine .inr ⟨hnot,yx fun x o=> ?_⟩;rcases E _ x o with⟨q,_⟩ | ⟨i,bk',F,G,q3,q4,q5⟩ | ⟨_,_,d',q,q'⟩
         ·exact Q l m q
         ·exact hfl au
         ·exact y ⟨d',q⟩
      ·refine yx fun x o=> ?_
       grind
     obtain⟨g1,g2,g3,g4⟩:=h.back hS hfr hnd L Q B hc' hB (fun i C=>by
       by_cases t:i∈a
       ·grind
       rw[K i t]at C;obtain⟨c,s⟩:=Qbt.1 C;exact JB k1 i c (ul s))
      (fun i c s l m=>by
       by_cases t:i∈a
       ·rw[R i t]at s;exact O l (tX k5 l (zA.2 ⟨i,t,by unfold ayC;grind⟩))
       ·rw[K i t]at s;exact O l (tX k3 l (zA.2 ⟨(i,c),ul s,m⟩)))
      (fun i c s hd=>by
       simp only[H,Qa9,Qbi];by_cases t:i∈a
       ·rw[R i t]at s;exact .inr ⟨i,t,by unfold auH;grind⟩
       ·rw[K i t]at s;exact .inl (.inr ⟨(i,c),ul s,hd⟩))
     refine⟨v,_,rfl,C9,g2,g1,?_⟩;have:out.val=r.ren (backTo ids fr):=by rw[<-k]
     rw[this];exact hr.ren (fun l m u Z=>g4 l (O l (tX k4 l m)) u Z) (fun hd=>g3 (by simp[H,hd]))
    ·cases k
   ·cases k
  ·cases k
end
end Go.Vc

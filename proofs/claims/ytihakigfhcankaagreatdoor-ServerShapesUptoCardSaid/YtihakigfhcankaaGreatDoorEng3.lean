/- Own engine: Vdr, Vds, Vdg, Vdi, Vdj. -/
import Derived.Test.YtihakigfhcankaaGreatDoorEng2
import Derived.Lib.Overlaps
import Derived.Lib.AppendZerosOnto
set_option linter.unusedVariables false
set_option linter.unusedSimpArgs false
namespace Go.Vc
open Go.RowKit
section
variable {D:Type}{P:Program}{S:Sh D}{T:TypeId->Option Ty}{M N:Nat->Prop}{w w':World}{w0:Bs}{g:Nat->Option Value}{blk:Nat->Option (Bk D)}{al:Nat->Prop}
 {a:Act} {o:Oper} {K:Act->World->Prop} {Q:Exit->Act->World->Prop} {slot:Nat->Sl D} {out:Out D} {fr:Nat}
theorem FD (hS:jd S){d d':D}{av:Option Addr}{n cap l h:Nat}(hd:dA S M w d (.slice av n cap))(hs:S.sub d l h=some d')(h1:l<=h)(h2:h<=S.len d):dA S M w d' (sliced av l h cap (S.size d)):=by
 obtain⟨e1,e2,e3⟩:=hS.sub _ _ _ _ hs h1 h2;intro w' hw;have hr:=hd w' hw;generalize hv:Value.slice av n cap=v at hr;cases hr with
 | mp d m v hm hl hz h=>rcases h.2 with⟨e,_⟩ | ⟨_,_,_,e,_⟩<;>(rw[<-hv]at e;cases e)
 | mk d hno a' cap' U hcap hlen hcell hpl hdat=>
  injection hv with i1 i2 i3
  subst i1 i3;show Ac S w' d' (.slice (if cap=l then av else av.map (·.add (l*S.size d))) (h - l) (cap - l))
  rw[<-e2];refine Ac.mk d' (hS.Gx _ _ _ _ hs).2 _ (cap - l) (fun i j=>U (l+i) j) au au (fun i j hi hj=> ?_) (fun i j hi hj=> ?_) (fun i j x hi hj hx=> ?_)
  ·rw[e1]at hj;obtain⟨ad,had,hc⟩:=hcell (l+i) j au hj;have hne:¬cap=l:=by omega
   refine⟨ad.add (l*S.size d),by rw[qC hne,had];rfl,?_⟩;rw[add_add',e1,<-hc,QX];congr 2;omega
  ·rw[e1]at hj;rw[e3 i j au];exact hpl (l+i) j au hj
  ·rw[e1]at hj;rw[e3 i j au]at hx;exact hdat (l+i) j x au hj hx
theorem PR {n:Nat}{lo:Option Operand}{l:Int}(hr:∀x:Operand,(aH slot x).Rel S M w g (a.eval x))(h:bnd n (lo.map (aH slot))=some l):(lo=none/\l=n)\/∃x k,lo=some x/\a.eval x= .int k l:=by
 cases lo with
 | none=>simp only[Qcd,bnd,KZ]at h;exact .inl ⟨rfl,h.symm⟩
 | some x=>
  simp only[GZ]at h;unfold bnd at h;split at h
  ·rename_i he;cases he
  ·rename_i k i he;injection he with he
   injection h with h
   subst h;have:=hr x;rw[he]at this;exact .inr ⟨x,k,rfl,this⟩
  ·cases h
theorem ajf (hS:jd S){d d':D}{av:Option Addr}{n cap h:Nat}(hd:dA S M w d (.slice av n cap))(hs:S.sub d 0 h=some d')(h2:h<=S.len d)(hl:S.len d'=h - 0):∃a,sliced av 0 h h (S.size d)= .slice a (S.len d') (S.len d')/\dA S M w d' (sliced av 0 h h (S.size d)):=by
 obtain⟨e1,e2,e3⟩:=hS.sub _ _ _ _ hs (uN _) h2;refine⟨if h=0 then av else av.map (·.add (0*S.size d)),by rw[hl];rfl,?_⟩;intro w' hw;have hr:=hd w' hw;generalize hv:Value.slice av n cap=v at hr;cases hr with
 | mp d m v hm hl hz h=>rcases h.2 with⟨e,_⟩ | ⟨_,_,_,e,_⟩<;>(rw[<-hv]at e;cases e)
 | mk d hno a' cap' U hcap hlen hcell hpl hdat=>
  injection hv with i1 i2 i3
  subst i1 i3;show Ac S w' d' (.slice (if h=0 then av else av.map (·.add (0*S.size d))) (h - 0) (h - 0))
  rw[<-hl];refine Ac.mk d' (hS.Gx _ _ _ _ hs).2 _ (S.len d') (fun i j=>U (0+i) j) (lU _) au (fun i j hi hj=> ?_) (fun i j hi hj=> ?_) (fun i j x hi hj hx=> ?_)
  ·rw[e1]at hj;obtain⟨ad,had,hc⟩:=hcell (0+i) j au hj;have hne:¬h=0:=by omega
   refine⟨ad.add (0*S.size d),by rw[qC hne,had];rfl,?_⟩;rw[add_add',e1,<-hc,QX];congr 2;omega
  ·rw[e1]at hj;rw[e3 i j au];exact hpl (0+i) j au hj
  ·rw[e1]at hj;rw[e3 i j au]at hx;exact hdat (0+i) j x au hj hx
theorem IJ {t e:TypeId}{x:Operand}{lo hi:Option Operand}{sz s n cap:Nat}{av:Option Addr}{l hh:Int}(ho:o.op= .slice t x lo hi none)(hsl:P.underlying t=some (.slice e))(hsz:(sizeOf e).run P w= .ok sz w)(hv:a.eval x= .slice av n cap)(hcap:n<=cap)
  (hr:∀x:Operand,(aH slot x).Rel S (aW N blk g) w g (a.eval x)) (hl:bnd 0 (lo.map (aH slot))=some l) (hhi:bnd n (hi.map (aH slot))=some hh) (h1:sz=s) (p1:0<=l) (p2:l<=hh) (p3:hh<=n):
  (execOp a.eval o).run P w= .ok (.value (sliced av l.toNat hh.toNat cap s)) w:=by
 have ae9:P.elem t=e:=by simp[Program.elem,hsl]
 have Ae:P.underlying t=some (.slice (P.elem t)):=by rw[ae9];exact hsl
 have e1:(execOp a.eval o).run P w=((Instr.slice t (.slice av (n) cap) (lo.map a.eval) (hi.map a.eval) none).run P w).andThen fun v w=> .ok (.value v) w:=by
  simp[execOp,ho,hv,run_sliceAt_slice w t _ _ _ _ Ae]
 rw[e1];rcases PR hr hl with⟨rfl,hl0⟩ | ⟨xl,kl,rfl,hxl⟩<;>rcases PR hr hhi with⟨rfl,hh0⟩ | ⟨xh,kh,rfl,hxh⟩
 ·simp only[Qcd];rw[run_slice_all w t _ _ _ Ae,ae9,hsz];have:l.toNat=0:=by omega
  have h2:hh.toNat=n:=by omega
  rw[this,h2,<-h1];rfl
 ·simp only[Qcd,GZ,hxh];rw[run_slice_h w t _ _ _ Ae kh hh au au,ae9,hsz];have:l.toNat=0:=by omega
  rw[this,<-h1];rfl
 ·simp only[Qcd,GZ,hxl];rw[run_slice_l w t _ _ _ Ae kl l au au,ae9,hsz];have h2:hh.toNat=n:=by omega
  rw[h2,<-h1];rfl
 ·simp only[GZ,hxl,hxh];rw[run_slice_lh w t _ _ _ Ae kl kh l hh au au au,ae9,hsz,<-h1];rfl
theorem aeK {t:TypeId}{x:Operand}{lo hi:Option Operand}(hS:jd S)(ho:o.op= .slice t x lo hi none)(hTy:∀t ty,T t=some ty->fU P t ty)(h:Hp S w0 N blk g al w)
  (hr:∀x:Operand,(aH slot x).Rel S (aW N blk g) w g (a.eval x)) (hout:MK T S blk t (aH slot x) (lo.map (aH slot)) (hi.map (aH slot))=some out) (hp:lZ out.pre) (hK:Post S w0 N blk g al w fr out o.dst a K):o.wp P a w K Q:=by
 have hx:=hr x;unfold MK at hout;split at hout
 ·cases hout
 ·rename_i ty hty;split at hout
  ·cases hout
  ·rename_i l hl;split at hout
   ·rename_i s hex;rw[hex]at hx;simp only[Sl.Rel,Sv.Rel,Lf.Rel]at hx;obtain⟨hx,hxl⟩:=hx;split at hout
    ·rename_i hk;obtain⟨d,hd,hkd⟩:=ny (hTy _ _ hty);have hk:ty.kind=3:=by simpa using hk
     rw[hk]at hkd;have hd:P.underlying t=some .string:=by cases d<;>simp_all [kindOf]
     split at hout
     ·rename_i hh hhi;injection hout with hout
      subst hout;obtain⟨p1,p2,p3⟩:=hp;have hsz:(ByteArray.mk s.toArray).size=s.length:=by show s.toArray.size=_;simp
      have aIb:(ByteArray.mk s.toArray).extract l.toNat hh.toNat=⟨((s.take hh.toNat).drop l.toNat).toArray⟩:=by
       apply ByteArray.ext;rw[ByteArray.data_extract];apply Io.1;simp[Qdq,List.drop_take]
      refine bf (v:= .string ⟨((s.take hh.toNat).drop l.toNat).toArray⟩) ?_ h hK rfl ⟨rfl,by rw[PW,uP];omega⟩;rw[<-aIb];have e1:(execOp a.eval o).run P w=((Instr.slice t (.string ⟨s.toArray⟩) (lo.map a.eval) (hi.map a.eval) none).run P w).andThen fun v w=> .ok (.value v) w:=by
       simp[execOp,ho,hx,run_sliceAt_string w t _ _ _ _ hd]
      rw[e1];rcases PR hr hl with⟨rfl,hl0⟩ | ⟨xl,kl,rfl,hxl⟩<;>rcases PR hr hhi with⟨rfl,hh0⟩ | ⟨xh,kh,rfl,hxh⟩
      ·simp only[Qcd];rw[run_slice_string_all w t _ hd];have:l.toNat=0:=by omega
       have h2:hh.toNat=(ByteArray.mk s.toArray).size:=by omega
       rw[this,h2];rfl
      ·simp only[Qcd,GZ,hxh];rw[run_slice_string_h w t _ hd kh hh au au];have:l.toNat=0:=by omega
       rw[this];rfl
      ·simp only[Qcd,GZ,hxl];rw[run_slice_string_l w t _ hd kl l au au];have h2:hh.toNat=(ByteArray.mk s.toArray).size:=by omega
       rw[h2];rfl
      ·simp only[GZ,hxl,hxh];rw[run_slice_string w t _ kl kh l hh hd au au au];rfl
     ·cases hout
    ·cases hout
   ·rename_i d hex;rw[hex]at hx;split at hout
    ·cases hout
    ·rename_i e hel;split at hout
     ·cases hout
     ·rename_i te hte;have hsl:=kY (hTy _ _ hty) hel;have hsz:=kH (hTy _ _ hte) w;split at hout
      ·rename_i hc;simp only[jY]at hc;have h1:=Qa hc.1;split at hout
       ·rename_i hh hhi;split at hout
        ·rename_i d' hd';injection hout with hout
         subst hout;obtain⟨p1,p2,p3⟩:=hp;have hx:dA S (aW N blk g) w d (a.eval x):=hx;obtain⟨av,cap,hv,hcap⟩:=dA.slice' hx (hS.Gx _ _ _ _ hd').1;rw[hv]at hx;have hres:=FD hS hx hd' au au;refine bf (v:=sliced av l.toNat hh.toNat cap (S.size d)) ?_ h hK rfl hres;exact IJ ho hsl hsz hv hcap hr hl hhi h1 p1 p2 p3
        ·cases hout
       ·cases hout
      ·cases hout
   ·rename_i q hex;rw[hex]at hx;have hx:g q=some (a.eval x):=hx;split at hout
    ·cases hout
    ·rename_i e hel;split at hout
     ·cases hout
     ·rename_i te hte;have hsl:=kY (hTy _ _ hty) hel;have hsz:=kH (hTy _ _ hte) w;split at hout
      ·rename_i e' d hb;split at hout
       ·rename_i hh hhi;injection hout with hout
        subst hout;obtain⟨p1,p2,p3⟩:=hp;obtain⟨v,hv',_,xs,⟨_,hown⟩,_⟩:=h.dH q _ hb;rw[hx]at hv';injection hv' with hv'
        rcases hown with⟨h0,hn0⟩ | ⟨b,cap',cur,hvv,_,_,hnc,_⟩
        ·exact bf (v:=_) (IJ (n:=S.len d) (cap:=0) ho hsl hsz (by rw[hv',h0,hn0]) au hr hl hhi rfl p1 p2 p3) h hK rfl ⟨none,S.len d,0,by rw[hx,hv',h0,hn0],rfl,by omega,by omega,rfl⟩
        ·exact bf (v:=_) (IJ (n:=S.len d) ho hsl hsz (by rw[hv',hvv]) hnc hr hl hhi rfl p1 p2 p3) h hK rfl ⟨_,S.len d,_,by rw[hx,hv',hvv],rfl,by omega,by omega,rfl⟩
       ·cases hout
      ·cases hout
   ·cases hout
theorem Hp.ah9 (h:Hp S w0 N blk g al w){l:Nat}{bk bk':Bk D}{v:Value}(hl:blk l=some bk)(hh:hot (some bk)=true)(hh':hot (some bk')=true)(hg:g l=some v)
  (hok:xJ S (aW N blk g) w g w0 bk' v):Hp S w0 N (upd blk l (some bk')) g al w/\Keeps (aW N blk g) w (aW N (upd blk l (some bk')) g) w:=by
 have hsome:∀n,hot (upd blk l (some bk') n)=hot (blk n):=by
  intro n;by_cases he:n=l
  ·subst he;simp[upd_same,hl,hh,hh']
  ·rw[bK _ _ _ _ he]
 have hM:aW N (upd blk l (some bk')) g=aW N blk g:=by
  funext c;simp only[aW,hsome]
 refine⟨⟨h.below,h.hN,?_,?_,h.al,h.refs,by rw[hM];exact h.gl⟩,hM▸Keeps.refl _ _⟩
 ·intro n bkn hn;rw[hM];by_cases he:n=l
  ·subst he;rw[upd_same]at hn;injection hn with hn
   subst hn;exact⟨v,hg,hok⟩
  ·rw[bK _ _ _ _ he]at hn;exact h.dH n bkn hn
 ·intro a c va vc d ha hc;rw[hsome]at ha hc;exact h.sep a c va vc d ha hc
theorem agJ {v:Value}(h:v.oneCell'=true):one' v=true:=by cases v<;>simp_all [one',Value.oneCell']
theorem ahl {c:Call}{x y:Operand}(hS:jd S)(ho:o.op= .call c)(hc:c.callee= .builtin .copy)(hx':c.args.toList=[x,y])(hTy:∀t ty,T t=some ty->fU P t ty)(h:Hp S w0 N blk g al w)
  (hx:(aH slot x).Rel S (aW N blk g) w g (a.eval x)) (hy:(aH slot y).Rel S (aW N blk g) w g (a.eval y)) (hout:X5 T S blk c.argTypes (aH slot x) (aH slot y)=some out) (hK:Post S w0 N blk g al w fr out o.dst a K):o.wp P a w K Q:=by
 unfold X5 at hout;split at hout
 ·rename_i t t' hts;split at hout
  ·rename_i htt;have htt:=Qa htt;subst htt;split at hout
   ·cases hout
   ·rename_i ty hty;split at hout
    ·cases hout
    ·rename_i e hel;split at hout
     ·cases hout
     ·rename_i te hte;have hsl:=kY (hTy _ _ hty) hel;have hsz:=kH (hTy _ _ hte) w;split at hout
      ·rename_i l d2 hex CE;rw[hex]at hx;rw[CE]at hy;have hx:g l=some (a.eval x):=hx;have hy:dA S (aW N blk g) w d2 (a.eval y):=hy;split at hout
       ·rename_i e' d1 hb;split at hout
        ·rename_i hcc;simp only[jY]at hcc;obtain⟨c1,c2,c3,c4⟩:=hcc;have c1:=Qa c1;have c2:=Qa c2;have c3:=Qa c3;have c4:0 < te.size:=by simpa[Gf]using c4
         subst c1;split at hout
         ·rename_i dp dq hdp hdq;split at hout
          ·rename_i d hd;injection hout with hout
           subst hout;generalize hm:min (S.len d2) (S.len d1)=m at*;have hm1:m<=S.len d1:=by omega
           have hm2:m<=S.len d2:=by omega
           obtain⟨p1,p2,p3⟩:=hS.sub _ _ _ _ hdp au hm2;obtain⟨q1,q2,q3⟩:=hS.sub _ _ _ _ hdq hm1 (lU _);obtain⟨k1,k2,k3,k4,k5⟩:=hS.cat _ _ _ hd;have hsd:S.size d=te.size:=by omega
           have hld:S.len d=S.len d1:=by omega
           obtain⟨av,cap,news,hv2,hnl,hnc,hnz,hone,hnr⟩:=IC (g:=g) hS hy au;obtain⟨v,hv',Ci,xs,⟨hxl,hown⟩,hcell⟩:=h.dH l _ hb;rw[hx]at hv';injection hv' with hv'
           have hload:(Builtin.firstCells te.size m (a.eval y)).run P w= .ok (news.take (m*te.size)).toArray w:=by
            rw[hv2];cases av with
            | none=>
             have h0:=hnz rfl;have:m=0:=by omega
             subst this;simp[Builtin.firstCells]
            | some ad=>
             have hlen:(news.take (m*te.size)).length=m*te.size:=by
              rw[uP,hnl,<-c3];have:=L8 te.size hm2;omega
             have:=run_loadCells_list (P:=P) w ad (news.take (m*te.size)) (fun j u hj=>hnc ad rfl j u (by
              rw[LD]at hj;split at hj
              ·exact hj
              ·cases hj))
             rw[hlen]at this;exact this
           have auD:(Builtin.lenOf (a.eval y)).run P w= .ok (S.len d2) w:=by rw[hv2];simp[Builtin.lenOf]
           have hargs:c.args= #[x,y]:=by rw[<-Io];exact hx'
           have hat:c.argTypes= #[t,t]:=by rw[<-Io];exact hts
           rcases hown with⟨h0,hn0⟩ | ⟨b,cap',cur,hvv,_,hh,hnc',hcm,hcs,htake⟩
           ·
            have hm0:m=0:=by omega
            subst hm0;have hdst:a.eval x= .slice none 0 0:=by rw[hv',h0]
            have hrun':(execOp a.eval o).run P w= .ok (.value (goInt 0)) w:=by
             simp[execOp,ho,resolve,hc,invoke,builtin,hargs,hat,Builtin.copy_,run_underlying hsl,hdst,auD,hsz,hload]
            obtain⟨g1,g2⟩:=h.ah9 (bk':= .row e d) hb rfl rfl hx (by
             rw[hv'];refine⟨⟨Ci.1,by rw[hld];exact Ci.2.1,by first | exact hS.anA au | (apply hS.V3;assumption)⟩,[],⟨by simp[hld,hn0], .inl ⟨h0,by omega⟩⟩,fun i j hi hj=>by omega⟩)
            exact lm hrun' (hK _ _ _ (More.refl _) g2 (g1.weaken fun _ h=> .inl h) rfl)
           ·have hdst:a.eval x= .slice (some ⟨b,0,none⟩) (S.len d1) cap':=by rw[hv',hvv]
            have hlt:(news.take (m*te.size)).length=m*te.size:=by
             rw[uP,hnl,<-c3];have:=L8 te.size hm2;omega
            have hms:m*te.size<=S.len d1*te.size:=L8 _ hm1;have hcl:S.len d1*te.size<=cur.toList.length:=by rw[O5,hcs,<-c2];exact L8 _ hnc'
            have hh':w.heap[b]? =some (.cells (cur.toList).toArray e (0,0)):=by simpa using hh
            obtain⟨w',hrun,hb',hn,hs,q1',q2',q3'⟩:=kT (P:=P) b e (news.take (m*te.size)) w cur.toList 0 0 hh' au (by
             rw[MX];intro u hu;exact agJ (hone u (List.mem_of_mem_take hu)))
            have hrun':(execOp a.eval o).run P w= .ok (.value (goInt m)) w':=by
             have hmin:Nat.min (S.len d2) (S.len d1)=m:=hm;simp[execOp,ho,resolve,hc,invoke,builtin,hargs,hat,Builtin.copy_,run_underlying hsl,hdst,auD,hmin,hsz,hload,hrun]
            have aHm:∀k,k < S.len d1*te.size->cur.toList[k]? =xs[k]? :=fun k hk=>by rw[<-htake,LD,Qb (by rw[<-c2];exact hk)]
            simp only[MB,BZ,List.take_zero,Qcc,hlt]at hb';obtain⟨g1,g2⟩:=h.write (bk':= .row e d) hb rfl rfl hx (by rw[hdst];rfl) q1' q2' q3' hs hn (fun hk=>by
             rw[hv'];refine⟨⟨Ci.1,by rw[hld];exact Ci.2.1,by first | exact hS.anA au | (apply hS.V3;assumption)⟩,(news.take (m*te.size)++cur.toList.drop (m*te.size)).take (S.len d1*te.size),⟨?_, .inr ⟨b,cap',(news.take (m*te.size)++cur.toList.drop (m*te.size)).toArray,by rw[hvv,hld],uN _,hb',by omega,hcm,?_,by rw[hld,hsd]⟩⟩,fun i j hi hj=> ?_⟩
             ·rw[hld,hsd];rw[uP,pz,hlt,PW];omega
             ·rw[Qcl,pz,hlt,PW,hsd,c2,<-hcs,<-c2];have:=O5 (xs:=cur);omega
             ·rw[hsd]at hj⊢;rw[hld]at hi;have hlt':=nU hi hj;rw[LD,Qb hlt'];have hdt:=hS.data d i j au au;by_cases him:i < m
              ·obtain⟨u,hu,hru⟩:=hnr i j au au;have hlm:=nU him hj;refine⟨u,?_,hdt,?_⟩
               ·rw[Qa9 au,LD,Qb hlm,c3];exact hu
               ·have e1:S.cell d i j=S.cell d2 i j:=by rw[k4 i j au,p3 i j au,BZ]
                rw[e1];exact hru.keep hk (More.refl _)
              ·obtain⟨u,hu,_,hru⟩:=hcell i j hi au;have hge:m*te.size<=i*te.size:=L8 _ au;refine⟨u,?_,hdt,?_⟩
               ·rw[Qa6 au,hlt,Qbk,show m*te.size+(i*te.size+j - m*te.size)=i*te.size+j by omega,aHm _ hlt',c2];exact hu
               ·have e1:S.cell d i j=S.cell d1 i j:=by
                 have e2:=k5 (i - m) j au;rw[show S.len dp+(i - m)=i by omega]at e2;rw[e2,q3 (i - m) j au,show m+(i - m)=i by omega]
                rw[e1];exact hru.keep hk (More.refl _))
            exact lm hrun' (hK _ _ _ (More.refl _) g2 (g1.weaken fun _ h=> .inl h) rfl)
          ·cases hout
         ·cases hout
        ·cases hout
       ·cases hout
      ·cases hout
  ·cases hout
 ·cases hout
end
end Go.Vc
namespace Go.Vc
open Go.RowKit
section
variable {P:Program}{w w':World}
theorem uC {t e:TypeId}{s b o sLen dLen:Nat}{ad:Addr}{cs cur:List Value}{e':TypeId}(hsl:P.underlying t=some (.slice e))(hsz:∀w,(sizeOf e).run P w= .ok s w)
  (hb:w.heap[b]? =some (.cells cur.toArray e' (0,0))) (hn:cs.length=Nat.min sLen dLen*s) (hsrc:∀j u,cs[j]? =some u->w.cell? (ad.add j)=some u) (hfit:o+cs.length<=cur.length) (h1:cs.all one'=true):
  ∃w',(∀ty dc sc,(Builtin.copy_ #[t,t] ty #[.slice (some ⟨b,o,none⟩) dLen dc, .slice (some ad) sLen sc]).run P w= .ok (goInt (Nat.min sLen dLen)) w')/\
   w'.heap[b]? =some (.cells (cur.take o++(cs++cur.drop (o+cs.length))).toArray e' (0,0))/\(∀n,n≠b->w'.heap[n]? =w.heap[n]?)/\w'.heap.size=w.heap.size/\w'.os=w.os/\w'.tape=w.tape/\w'.output=w.output:=by
 obtain⟨w',hrun,hb',hne,hs,q1,q2,q3⟩:=kT (P:=P) b e' cs w cur o 0 hb au h1;simp only[MB]at hb';refine⟨w',fun ty dc sc=> ?_,hb',hne,hs,q1,q2,q3⟩;have hl:=run_loadCells_list (P:=P) w ad cs hsrc;rw[hn]at hl;simp[Builtin.copy_,run_underlying hsl,Builtin.lenOf,Builtin.firstCells,hsz,hl,hrun]
structure FO (P:Program)(f t ti ov s:Nat):Prop where
 shift:∀(b n c i m vb vc:Nat) (w w1 w2:World),i < n->0 < m->n+m<=c->c<=9223372036854775807->
  (∀lb cb x,(callFunc ov #[.slice (some ⟨vb,0,none⟩) m vc, .slice (some ⟨b,x,none⟩) lb cb]).run P w= .ok (.value (.bool false)) w)->
  (∀ty dc sc,(Builtin.copy_ #[t,t] ty #[.slice (some ⟨b,(i+m)*s,none⟩) (n+m - (i+m)) dc, .slice (some ⟨b,i*s,none⟩) (n+m - i) sc]).run P w.drew= .ok (goInt (n - i:Nat)) w1)->
  (∀ty dc,(Builtin.copy_ #[t,t] ty #[.slice (some ⟨b,i*s,none⟩) (n+m - i) dc, .slice (some ⟨vb,0,none⟩) m vc]).run P w1= .ok (goInt m) w2)->
  Calls P f #[.slice (some ⟨b,0,none⟩) n c, .int .i64 i, .slice (some ⟨vb,0,none⟩) m vc] w fun e w'=>e= .returned (.slice (some ⟨b,0,none⟩) (n+m) c)/\w'=w2
 grow:∀(b n c i m h cc vb vc:Nat) (w w1 w2 w3:World),i < n->0 < m->n<=c->c < n+m->n+m<=cc->n+m<=9223372036854775807->
  (∀ty,(Builtin.append_ #[t,ti] ty #[.slice (some ⟨b,0,none⟩) i c, .int .i64 ((n:Int)+m - i)]).run P w= .ok (.slice (some ⟨h,0,none⟩) (n+m) cc) w1)->
  (∀ty dc,(Builtin.copy_ #[t,t] ty #[.slice (some ⟨h,i*s,none⟩) (n+m - i) dc, .slice (some ⟨vb,0,none⟩) m vc]).run P w1= .ok (goInt m) w2)->
  (∀ty dc sc,(Builtin.copy_ #[t,t] ty #[.slice (some ⟨h,(i+m)*s,none⟩) (n+m - (i+m)) dc, .slice (some ⟨b,i*s,none⟩) (n - i) sc]).run P w2.drew= .ok (goInt (n - i:Nat)) w3)->
  Calls P f #[.slice (some ⟨b,0,none⟩) n c, .int .i64 i, .slice (some ⟨vb,0,none⟩) m vc] w fun e w'=>e= .returned (.slice (some ⟨h,0,none⟩) (n+m) cc)/\w'=w3
 atEnd:∀(a a2:Option Addr) (n c m c2:Nat) (v':Value) (w w':World),0 < m->n<=c->n<=9223372036854775807->
  (∀ty,(Builtin.append_ #[t,t] ty #[.slice a n c, .slice a2 m c2]).run P w= .ok v' w')->
  Calls P f #[.slice a n c, .int .i64 n, .slice a2 m c2] w fun e w1=>e= .returned v'/\w1=w'
theorem adV {cl xs ys:List Value}{n m c i s:Nat}(hi:i < n)(hc:n+m<=c)(hcl:cl.length=c*s)(hx:cl.take (n*s)=xs)(hy:ys.length=m*s):
  ((cl.drop (i*s)).take ((n - i)*s))=xs.drop (i*s)/\(xs.drop (i*s)).length=(n - i)*s/\
  let cl1:=cl.take ((i+m)*s)++(xs.drop (i*s)++cl.drop ((i+m)*s+(n - i)*s))
  let cl2:=cl1.take (i*s)++(ys++cl1.drop (i*s+m*s))
  cl1.length=c*s/\cl2.length=c*s/\cl2.take ((n+m)*s)=xs.take (i*s)++(ys++xs.drop (i*s)):=by
 have m1:i*s<=n*s:=L8 _ au;have m2:(n+m)*s<=c*s:=L8 _ hc;have m3:(n+m)*s=n*s+m*s:=QX ..;have m4:(i+m)*s=i*s+m*s:=QX ..;have m5:(n - i)*s=n*s - i*s:=Qek ..;have hxl:xs.length=n*s:=by rw[<-hx,uP];omega
 have e1:(cl.drop (i*s)).take ((n - i)*s)=xs.drop (i*s):=by rw[<-hx,List.drop_take,m5]
 have e2:(xs.drop (i*s)).length=(n - i)*s:=by rw[PW,hxl,m5]
 refine⟨e1,e2,?_⟩;intro cl1 cl2;have l1:cl1.length=c*s:=by
  simp only[cl1,pz,uP,PW,e2]at*;omega
 have t1:cl1.take (i*s)=xs.take (i*s):=by
  simp only[cl1];rw[Qbs qa8,Qc8,Qct au,<-hx,Qc8,Qct au]
 have d1:cl1.drop (i*s+m*s)=xs.drop (i*s)++cl.drop ((i+m)*s+(n - i)*s):=by
  simp only[cl1];rw[List.drop_append_of_le_length qa8,Qd0 qa8,Qcc]
 have l2:cl2.length=c*s:=by
  simp only[cl2];rw[t1,d1];simp only[pz,uP,PW];omega
 refine⟨l1,l2,?_⟩;simp only[cl2];rw[t1,d1,<-Qba,<-Qba,Qbs qbp,Qb0 qbp,Qba]
theorem Ez {b:Nat}{cl:List Value}{e':TypeId}(hb:w.heap[b]? =some (.cells cl.toArray e' (0,0)))(o j:Nat):w.cell? ((⟨b,o,none⟩:Addr).add j)=cl[o+j]? :=by rw[lq,cell_of hb]
def ahr (e s:Nat)(v:Value)(w:World)(n:Nat)(xs:List Value)(r:Ending)(w':World):Prop:=
 ∃v',r= .returned v'/\w'.ownsRow 0 e s v' n xs/\w.grownBy w' v.ownBlock/\(v'.ownBlock=v.ownBlock\/v'.ownBlock=some w.heap.size)
theorem WI {f t ti ov s e tb:Nat}(H:FO P f t ti ov s)(hs0:0 < s)(hsl:P.underlying t=some (.slice e))(hsz:∀w,(sizeOf e).run P w= .ok s w)
  (hov:∀args w,(callFunc ov args).run P w=((Extern.SlicesOverlaps.overlaps #[t,t] #[tb] args).run P w).andThen fun v w=> .ok (.value v) w)
  {b n c i m vb vc:Nat} {cl cl2 xs ys:List Value} (hvb:vb≠b) (hb:w.heap[b]? =some (.cells cl.toArray e (0,0))) (hb2:w.heap[vb]? =some (.cells cl2.toArray e (0,0)))
  (hcl:cl.length=c*s) (hx:cl.take (n*s)=xs) (hy:cl2.take (m*s)=ys) (hyl:ys.length=m*s) (hx1:xs.all one'=true) (hy1:ys.all one'=true)
  (hi:i < n) (hm:0 < m) (hc:n+m<=c) (hcm:c<=maxLen):
  Calls P f #[.slice (some ⟨b,0,none⟩) n c, .int .i64 i, .slice (some ⟨vb,0,none⟩) m vc] w (ahr e s (.slice (some ⟨b,0,none⟩) n c) w (n+m) (xs.take (i*s)++(ys++xs.drop (i*s)))):=by
 obtain⟨e1,e2,l1,l2,l3⟩:=adV hi hc hcl hx hyl;have m1:i*s<=n*s:=L8 _ au;have m2:(n+m)*s<=c*s:=L8 _ hc;have m3:(n+m)*s=n*s+m*s:=QX ..;have m4:(i+m)*s=i*s+m*s:=QX ..;have m5:(n - i)*s=n*s - i*s:=Qek ..;have hbd:w.drew.heap[b]? =some (.cells cl.toArray e (0,0)):=hb;have min1:Nat.min (n+m - i) (n+m - (i+m))=n - i:=by show min _ _=_;omega
 have min2:Nat.min m (n+m - i)=m:=by show min _ _=_;omega
 obtain⟨w1,r1,hw1,n1,z1,o1,t1,p1⟩:=uC (P:=P) (w:=w.drew) (t:=t) (e:=e) (s:=s) (b:=b) (o:=(i+m)*s) (sLen:=n+m - i) (dLen:=n+m - (i+m)) (ad:=⟨b,i*s,none⟩) (cs:=xs.drop (i*s)) (cur:=cl) hsl hsz hbd
  (by rw[min1,e2]) (fun j u hj=>by
   rw[Ez hbd,<-Qbk];rw[<-e1,LD]at hj;split at hj
   ·exact hj
   ·cases hj) (by rw[e2,hcl];omega) (by
   rw[MX]at hx1⊢;exact fun u hu=>hx1 u (Qd8 hu))
 rw[e2]at hw1;have aIa:w1.heap[vb]? =some (.cells cl2.toArray e (0,0)):=(n1 vb hvb).trans hb2;obtain⟨w2,r2,hw2,n2,z2,o2,t2,p2⟩:=uC (P:=P) (w:=w1) (t:=t) (e:=e) (s:=s) (b:=b) (o:=i*s) (sLen:=m) (dLen:=n+m - i) (ad:=⟨vb,0,none⟩) (cs:=ys) hsl hsz hw1
  (by rw[min2,hyl]) (fun j u hj=>by
   rw[Ez aIa,BZ];rw[<-hy,LD]at hj;split at hj
   ·exact hj
   ·cases hj) (by rw[hyl,l1];omega) hy1
 rw[hyl]at hw2;rw[min1]at r1;rw[min2]at r2;refine(H.shift b n c i m vb vc w w1 w2 hi hm hc (by unfold maxLen at hcm;omega) (fun lb cb x=> ?_) r1 (fun ty dc=>r2 ty dc vc)).mono fun r w' hr=> ?_
 ·rw[hov,Lib.run_overlaps_apart w t tb e hsl s hsz ⟨vb,0,none⟩ ⟨b,x,none⟩ m vc lb cb hvb e e cl2.length cl.length (by simp[World.shape?,hb2]) (by simp[World.shape?,hb]) (by have:0 < c*s:=Nat.mul_pos au hs0;omega) (by simp[World.frozen?,hb2]) (by simp[World.frozen?,hb2])];rfl
 ·obtain⟨rfl,rfl⟩:=hr;refine⟨_,rfl,⟨?_, .inr ⟨b,c,_,rfl,uN _,hw2,by omega,hcm,?_,l3⟩⟩,⟨o2.trans o1,t2.trans t1,p2.trans p1,?_,fun k hk hne=> ?_⟩, .inl rfl⟩
  ·rw[<-l3,uP,l2];omega
  ·rw[Qcl];exact l2
  ·rw[z2,z1];exact lU _
  ·have hkb:k≠b:=fun e=>hne qcx
   rw[n2 k hkb,n1 k hkb];rfl
theorem agA {nl xs ys:List Value}{n m c i s:Nat}(hi:i < n)(hc:n+m<=c)(hnl:nl.length=c*s)(hxl:xs.length=n*s)(ht:nl.take (i*s)=xs.take (i*s))(hy:ys.length=m*s):
  let n1:=nl.take (i*s)++(ys++nl.drop (i*s+m*s))
  let n2:=n1.take ((i+m)*s)++(xs.drop (i*s)++n1.drop ((i+m)*s+(n - i)*s))
  (xs.drop (i*s)).length=(n - i)*s/\n1.length=c*s/\n2.length=c*s/\n2.take ((n+m)*s)=xs.take (i*s)++(ys++xs.drop (i*s)):=by
 have m1:i*s<=n*s:=L8 _ au;have m2:(n+m)*s<=c*s:=L8 _ hc;have m3:(n+m)*s=n*s+m*s:=QX ..;have m4:(i+m)*s=i*s+m*s:=QX ..;have m5:(n - i)*s=n*s - i*s:=Qek ..;have e2:(xs.drop (i*s)).length=(n - i)*s:=by rw[PW,hxl,m5]
 intro n1 n2;have l1:n1.length=c*s:=by
  simp only[n1,pz,uP,PW];omega
 have t1:n1.take ((i+m)*s)=xs.take (i*s)++ys:=by
  simp only[n1];rw[ht,<-Qba,Qbs (by simp only[pz,uP];omega),Qb0 (by simp only[pz,uP];omega)]
 have l2:n2.length=c*s:=by
  simp only[n2,pz,uP,PW,l1,hxl];omega
 refine⟨e2,l1,l2,?_⟩;simp only[n2];rw[t1,<-Qba,Qbs qbp,Qb0 qbp,Qba]
theorem abU {f t ti ov s e bytes:Nat}{kn:IntKind}{inf:TypeInfo}{z:Value}(H:FO P f t ti ov s)(hs0:0 < s)(hsl:P.underlying t=some (.slice e))(hti:P.underlying ti=some (.int kn))(hsz:∀w,(sizeOf e).run P w= .ok s w)
  (ae_:P.info? e=some inf) (hz:inf.zero=some z) (his:inf.size=s) (hib:inf.bytes=bytes) (hzs:z.cells.size=s)
  {b n c i m vb vc:Nat} {cl cl2 xs ys:List Value} (hvb:vb≠b) (hb:w.heap[b]? =some (.cells cl.toArray e (0,0))) (hb2:w.heap[vb]? =some (.cells cl2.toArray e (0,0)))
  (hcl:cl.length=c*s) (hx:cl.take (n*s)=xs) (hy:cl2.take (m*s)=ys) (hyl:ys.length=m*s) (hx1:xs.all one'=true) (hy1:ys.all one'=true)
  (hi:i < n) (hm:0 < m) (hnc:n<=c) (hc:c < n+m) (h63:n+m<=maxLen) (hbytes:(n+m)*bytes<=140737488355328):
  Calls P f #[.slice (some ⟨b,0,none⟩) n c, .int .i64 i, .slice (some ⟨vb,0,none⟩) m vc] w (ahr e s (.slice (some ⟨b,0,none⟩) n c) w (n+m) (xs.take (i*s)++(ys++xs.drop (i*s)))):=by
 have m0:n*s<=c*s:=L8 _ hnc;have m1:i*s<=n*s:=L8 _ au;have m3:(n+m)*s=n*s+m*s:=QX ..;have m4:(i+m)*s=i*s+m*s:=QX ..;have m5:(n - i)*s=n*s - i*s:=Qek ..;have hxl:xs.length=n*s:=by rw[<-hx,uP];omega
 have hxi:cl.take (i*s)=xs.take (i*s):=by rw[<-hx,Qc8,Qct m1]
 have hold:(Builtin.firstCells inf.size i (.slice (some ⟨b,0,none⟩) i c)).run P w.drew= .ok (xs.take (i*s)).toArray w.drew:=by
  have hbd:w.drew.heap[b]? =some (.cells cl.toArray e (0,0)):=hb;have:=run_loadCells_list (P:=P) w.drew ⟨b,0,none⟩ (xs.take (i*s)) (fun j u hj=>by
   rw[Ez hbd,BZ];rw[<-hxi,LD]at hj;split at hj
   ·exact hj
   ·cases hj)
  rw[uP,Qct au]at this;rw[his];exact this
 have hsum:i+(n+m - i)=n+m:=by omega
 have hap:∀ty,_:=fun ty=>Lib.run_append_grow_zeros (P:=P) w t ti ty e inf z .i64 kn hsl hti ae_ hz (some ⟨b,0,none⟩) i c (xs.take (i*s)) hold (n+m - i) au au au (by rw[hsum];unfold maxLen at h63;omega)
  (by rw[hib];have:=L8 bytes (show n+m - i<=n+m by omega);omega) (by rw[hib,hsum];exact growslice_fits hc hbytes)
 rw[hsum]at hap;have hG1:n+m<=grownCap w (n+m) c e:=grownCap_ge w _ _ _;have hG2:grownCap w (n+m) c e<=maxLen:=grownCap_le_maxLen w (n+m) c e (by unfold maxLen at*;omega);generalize grownCap w (n+m) c e=G at*;have zsz:∀k,(Builtin.zeroCells z.cells k).size=k*s:=fun k=>by simp[Builtin.zeroCells,hzs]
 generalize hNL:((xs.take (i*s)).toArray++Builtin.zeroCells z.cells (n+m - i)++Builtin.zeroCells z.cells (G - (n+m)))=arr at hap;have hal:(xs.take (i*s)).length=i*s:=by rw[uP];omega
 have hnl:arr.toList.length=G*s:=by
  rw[<-hNL,O5,Qdh,Qdh,zsz,zsz,Qcl,hal,<-QX,<-QX];congr 1;omega
 have hnt:arr.toList.take (i*s)=xs.take (i*s):=by
  rw[<-hNL,Qb3,Qb3,Qba,Qbs (by rw[List.toList_toArray,hal];exact lU _),List.toList_toArray,Qb0 au]
 generalize hw1:w.drew.alloc (.cells arr e)=w1 at hap;have hb1:∀k,k < w.heap.size->w1.heap[k]? =w.heap[k]? :=fun k hk=>by rw[<-hw1];exact heap_alloc_old w.drew _ hk
 have hh:w1.heap[w.heap.size]? =some (.cells arr.toList.toArray e (0,0)):=by rw[<-hw1,Array.toArray_toList];exact heap_alloc_new w.drew _
 have hz1:w.heap.size < w1.heap.size:=by
  rw[<-hw1];show w.heap.size < (w.heap.push _).size
  simp
 have lb:=sJ hb;have lv:=sJ hb2;obtain⟨e2,l1,l2,l3⟩:=agA (c:=G) hi hG1 hnl hxl hnt hyl;have mG:(n+m)*s<=G*s:=L8 _ hG1;have min1:Nat.min m (n+m - i)=m:=by show min _ _=_;omega
 have min2:Nat.min (n - i) (n+m - (i+m))=n - i:=by show min _ _=_;omega
 obtain⟨w2,r1,hw2,n1,z1,o1,t1,p1⟩:=uC (P:=P) (w:=w1) (t:=t) (e:=e) (s:=s) (b:=w.heap.size) (o:=i*s) (sLen:=m) (dLen:=n+m - i) (ad:=⟨vb,0,none⟩) (cs:=ys) hsl hsz hh
  (by rw[min1,hyl]) (fun j u hj=>by
   rw[Ez ((hb1 vb lv).trans hb2),BZ];rw[<-hy,LD]at hj;split at hj
   ·exact hj
   ·cases hj) (by rw[hyl,hnl];omega) hy1
 rw[hyl]at hw2;have hbw2:w2.drew.heap[b]? =some (.cells cl.toArray e (0,0)):=((n1 b au).trans (hb1 b lb)).trans hb;obtain⟨w3,r2,hw3,n2,z2,o2,t2,p2⟩:=uC (P:=P) (w:=w2.drew) (t:=t) (e:=e) (s:=s) (b:=w.heap.size) (o:=(i+m)*s) (sLen:=n - i) (dLen:=n+m - (i+m)) (ad:=⟨b,i*s,none⟩) (cs:=xs.drop (i*s)) hsl hsz (show w2.drew.heap[w.heap.size]? =_ from hw2)
  (by rw[min2,e2]) (fun j u hj=>by
   rw[Ez hbw2];rw[Qbk,<-hx,LD]at hj;split at hj
   ·exact hj
   ·cases hj) (by rw[e2,l1];omega) (by
   rw[MX]at hx1⊢;exact fun u hu=>hx1 u (Qd8 hu))
 rw[e2]at hw3;rw[min1]at r1;rw[min2]at r2;have aEc:w1.os=w.os/\w1.tape=w.tape/\w1.output=w.output:=by rw[<-hw1];exact⟨rfl,rfl,rfl⟩
 refine(H.grow b n c i m w.heap.size G vb vc w w1 w2 w3 hi hm hnc hc hG1 (by unfold maxLen at h63;omega) (fun ty=> ?_) (fun ty dc=>r1 ty dc vc) r2).mono fun r w' hr=> ?_
 ·have:=hap ty;rw[show(((n+m - i:Nat)):Int)=(n:Int)+m - i by omega]at this;exact this
 ·obtain⟨rfl,rfl⟩:=hr;refine⟨_,rfl,⟨?_, .inr ⟨w.heap.size,G,_,rfl,uN _,hw3,hG1,hG2,?_,l3⟩⟩,⟨o2.trans (o1.trans aEc.1),t2.trans (t1.trans aEc.2.1),p2.trans (p1.trans aEc.2.2),?_,fun k hk hne=> ?_⟩, .inr rfl⟩
  ·rw[<-l3,uP,l2];omega
  ·rw[Qcl];exact l2
  ·rw[z2];show w.heap.size<=w2.heap.size;omega
  ·rw[n2 k au];show w2.heap[k]? =_
   rw[n1 k au,hb1 k hk]
theorem ahC {f t ti ov s e tb bytes:Nat}{kn:IntKind}{inf:TypeInfo}{z:Value}(H:FO P f t ti ov s)(hs0:0 < s)(hsl:P.underlying t=some (.slice e))(hti:P.underlying ti=some (.int kn))(hsz:∀w,(sizeOf e).run P w= .ok s w)
  (hov:∀args w,(callFunc ov args).run P w=((Extern.SlicesOverlaps.overlaps #[t,t] #[tb] args).run P w).andThen fun v w=> .ok (.value v) w)
  (ae_:P.info? e=some inf) (hz:inf.zero=some z) (his:inf.size=s) (hib:inf.bytes=bytes) (hzs:z.cells.size=s)
  {n m i:Nat} {v1 v2:Value} {xs ys:List Value} (Xd:w.ownsRow 0 e s v1 n xs) (ah7:w.ownsRow 0 e s v2 m ys) (hne:∀b,v1.ownBlock=some b->v2.ownBlock≠some b)
  (hx1:∀u∈xs,u.oneCell'=true) (hy1:∀u∈ys,u.oneCell'=true) (hi:i<=n) (hm:0 < m) (h63:n+m<=maxLen) (hbytes:(n+m)*bytes<=140737488355328):
  Calls P f #[v1, .int .i64 i,v2] w (ahr e s v1 w (n+m) (xs.take (i*s)++(ys++xs.drop (i*s)))):=by
 have hxa:xs.all one'=true:=by rw[MX];exact fun u hu=>agJ (hx1 u hu)
 have hya:ys.all one'=true:=by rw[MX];exact fun u hu=>agJ (hy1 u hu)
 obtain⟨hyl,hy⟩:=ah7;rcases hy with⟨_,hm0⟩ | ⟨vb,vc,aHd,rfl,_,hh2,hmc,hcm2,hcs2,ht2⟩
 ·omega
 by_cases hin:i=n
 ·subst hin;obtain⟨v',w',r1,r2,r3,r4⟩:=Dk (P:=P) (w:=w) t 0 e inf z s bytes hsl ae_ hz his hib hzs hs0 v1 i xs Xd (some ⟨vb,0,none⟩) m vc ys hyl (fun ad h j u hj=>by
   injection h with h
   subst h;have aIc:w.heap[vb]? =some (.cells aHd.toList.toArray e (0,0)):=by simpa using hh2
   rw[Ez aIc,BZ];rw[<-ht2,LD]at hj;split at hj
   ·exact hj
   ·cases hj) (fun h=>by cases h) hy1 h63 hbytes
  have hxl:=Xd.1;rw[Qb0 au,Qd0 au,Qdf];have hv1:∃a c,v1= .slice a i c/\i<=c:=by
   rcases Xd.2 with⟨rfl,h0⟩ | ⟨g,cap,cur,rfl,_,_,h1,_⟩
   ·subst h0;exact⟨none,0,rfl,lU _⟩
   ·exact⟨_,cap,rfl,h1⟩
  obtain⟨a,c,rfl,hic⟩:=hv1;refine(H.atEnd a (some ⟨vb,0,none⟩) i c m vc v' w w' hm hic (by unfold maxLen at h63;omega) (fun _=>r1)).mono fun r w1 hr=> ?_;obtain⟨rfl,rfl⟩:=hr;exact⟨v',rfl,r2,r3,r4⟩
 ·rcases Xd.2 with⟨_,h0⟩ | ⟨b,c,cur,rfl,_,hh1,hnc,hcm,hcs,ht⟩
  ·omega
  have hvb:vb≠b:=fun e=>hne b rfl qcx
  have hb:w.heap[b]? =some (.cells cur.toList.toArray e (0,0)):=by simpa using hh1
  have hb2:w.heap[vb]? =some (.cells aHd.toList.toArray e (0,0)):=by simpa using hh2
  have hcl:cur.toList.length=c*s:=by rw[O5];exact hcs
  by_cases hroom:n+m<=c
  ·exact WI H hs0 hsl hsz hov hvb hb hb2 hcl ht ht2 hyl hxa hya au hm hroom hcm
  ·exact abU H hs0 hsl hti hsz ae_ hz his hib hzs hvb hb hb2 hcl ht ht2 hyl hxa hya au hm hnc au h63 hbytes
end
section
variable {D:Type}{P:Program}{S:Sh D}
def akz (S:Sh D)(e s bytes:Nat):Ct D:=fun args dH=>
 match args,dH with
 | [.one (.lf (.own a)), .one (.lf (.int k i)), .one (.lf (.own b))],[.row e1 d1, .row e2 d2]=>
  if Nat.beq a 0 && (Nat.beq b 1 && (Nat.beq e1 e && (Nat.beq e2 e && (Nat.beq (S.size d1) s && (Nat.beq (S.size d2) s && WB k .i64)))))then
   (match S.sub d1 0 i.toNat,S.sub d1 i.toNat (S.len d1)with
   | some p,some q=>(match S.cat d2 q with
    | some r=>(match S.cat p r with
     | some d=>some (some (dp (0<=i/\i<=S.len d1/\0 < S.len d2/\bT (S.len d1+S.len d2) bytes)), .one (.lf (.own 2)),[(2, .row e d)],[])
     | none=>none)
    | none=>none)
   | _,_=>none)else none
 | _,_=>none
theorem row_one (hS:jd S){M:Nat->Prop}{w:World}{g:Nat->Option Value}{d:D}{s:Nat}{xs:List Value}(hs0:0 < s)(hd:S.size d=s)(hl:xs.length=S.len d*s)
  (hc:∀i j,i < S.len d->j < S.size d->∃u,xs[i*S.size d+j]? =some u/\(S.cell d i j).jJ=true/\(S.cell d i j).Rel S M w g u):∀u∈xs,u.oneCell'=true:=by
 intro u hu;obtain⟨k,hk⟩:=Qd7 hu;have hkl:k < xs.length:=(Qaz.1 hk).1;rw[hl]at hkl;have hi:k / s < S.len d:=by rw[Qd4 hs0];exact hkl
 obtain⟨u',hu',hda,hr⟩:=hc _ _ hi (by rw[hd];exact Qc5 k hs0);have:k / s*s+k % s=k:=by rw[Qcv];exact Nat.div_add_mod k s
 rw[hd,this,hk]at hu';injection hu' with hu'
 subst hu';exact Iu hda hr
theorem acl {f t ti ov s e tb bytes:Nat}{kn:IntKind}{inf:TypeInfo}{z:Value}(hS:jd S)(henter:∀(args:Array Value) (w:World),(callFunc f args).run P w= .ok (.enter f args) w)(H:FO P f t ti ov s)(hs0:0 < s)(hsl:P.underlying t=some (.slice e))(hti:P.underlying ti=some (.int kn))(hsz:∀w,(sizeOf e).run P w= .ok s w)
  (hov:∀args w,(callFunc ov args).run P w=((Extern.SlicesOverlaps.overlaps #[t,t] #[tb] args).run P w).andThen fun v w=> .ok (.value v) w)
  (ae_:P.info? e=some inf) (hz:inf.zero=some z) (his:inf.size=s) (hib:inf.bytes=bytes) (hzs:z.cells.size=s):fV P S f (akz S e s bytes):=by
 refine⟨henter,?_⟩;intro X N g w args nT dH p r post keep h hargs hct hp;unfold akz at hct;split at hct
 ·rename_i a k i b e1 d1 e2 d2;split at hct
  ·rename_i hc;simp only[jY]at hc;obtain⟨c1,c2,c3,c4,c5,c6,c7⟩:=hc;have c1:=Qa c1;have c2:=Qa c2;have c3:=Qa c3;have c4:=Qa c4;have c5:=Qa c5;have c6:=Qa c6;have c7:k= .i64:=by simpa[WB]using c7
   subst c1 c2 c3 c4 c7;split at hct
   ·rename_i dp dq hdp hdq;split at hct
    ·rename_i dr hdr;split at hct
     ·rename_i d hd;injection hct with hct
      injection hct with q1 q2
      injection q2 with q2 q3
      injection q3 with q3 q4
      subst q1 q2 q3 q4;obtain⟨p1,p2,p3,p4,p5⟩:=hp;match args,hargs with
      | [v1,vi,v2],⟨hv1,hvi,hv2,_⟩=>
       have hv1:g 0=some v1:=hv1;have hv2:g 1=some v2:=hv2;have hvi:vi= .int .i64 i:=hvi;subst hvi;have hi0:((i.toNat:Nat):Int)=i:=by omega
       obtain⟨u1,hu1,hm1,xs,Xd,cell1⟩:=h.dH 0 (.row _ d1) rfl;obtain⟨u2,hu2,hm2,ys,ah7,cell2⟩:=h.dH 1 (.row _ d2) rfl;rw[hv1]at hu1;rw[hv2]at hu2;injection hu1 with hu1
       injection hu2 with hu2
       subst hu1 hu2;rw[c5]at Xd;rw[c6]at ah7;have hx1:=row_one hS hs0 c5 Xd.1 cell1;have hy1:=row_one hS hs0 c6 ah7.1 cell2;have hsl1:∃a n c,v1= .slice a n c:=by rcases Xd.2 with⟨rfl,_⟩ | ⟨b,cp,cur,rfl,_⟩<;>exact⟨_,_,_,rfl⟩
       have hsl2:∃a n c,v2= .slice a n c:=by rcases ah7.2 with⟨rfl,_⟩ | ⟨b,cp,cur,rfl,_⟩<;>exact⟨_,_,_,rfl⟩
       have hne:∀b,v1.ownBlock=some b->v2.ownBlock≠some b:=by
        intro b hb1 hb2;rw[pg v1 hsl1]at hb1;rw[pg v2 hsl2]at hb2;exact absurd (h.sep 0 1 v1 v2 b rfl rfl hv1 hv2 hb1 hb2) au
       have run:=ahC H hs0 hsl hti hsz hov ae_ hz his hib hzs Xd ah7 hne hx1 hy1 (i:=i.toNat) au p3 (by simp only[maxLen];omega) p5;rw[hi0]at run;refine run.mono fun r w' hr=> ?_;obtain⟨v',rfl,o',gr,ob⟩:=hr;have Ae:∃a n c,v'= .slice a n c:=by rcases o'.2 with⟨rfl,_⟩ | ⟨b,cp,cur,rfl,_⟩<;>exact⟨_,_,_,rfl⟩
       rw[pg v' Ae,pg v1 hsl1]at ob;rw[pg v1 hsl1]at gr;obtain⟨s1,s2,s3⟩:=hS.sub _ _ _ _ hdp au au;obtain⟨t1,t2,t3⟩:=hS.sub _ _ _ _ hdq au (lU _);obtain⟨k1,k2,k3,k4,k5⟩:=hS.cat _ _ _ hdr;obtain⟨j1,j2,j3,j4,j5⟩:=hS.cat _ _ _ hd;have hsd:S.size d=s:=by omega
       have hld:S.len d=S.len d1+S.len d2:=by omega
       have aEb:∀u,More g (upd g 2 (some u)):=by
        intro u q y hq;have:q≠2:=fun e=>absurd (h.al q y hq) (by subst e;simp)
        rw[bK _ _ _ _ this];exact hq
       obtain⟨g1,g2,g3⟩:=h.move (l:=0) (fr:=2) (bk':= .row _ d) (v:=v1) (v':=v') rfl hv1 oJ gr.os gr.tape gr.output gr.size (fun n hn hne=>gr.block n hn fun e=>hne e.symm)
        (fun b hb'=>by
         rcases ob with ob | ob
         ·exact .inl (ob▸hb')
         ·rw[hb']at ob;injection ob with ob;exact .inr au)
        (fun M' hk _=>by
         refine⟨⟨fun b hb'=> ?_,by rw[hld];omega,hS.V3 _ _ _ hd⟩,_,by rw[hsd,hld];exact o',fun i' j hi' hj=> ?_⟩
         ·rcases ob with ob | ob
          ·exact hm1.1 b (ob▸hb')
          ·rw[hb']at ob;injection ob with ob;exact .inl (ob▸h.below.size)
         ·rw[hsd]at hj⊢;rw[hld]at hi';have hdt:=hS.data d i' j au au;have hxl:=Xd.1;have hyl:=ah7.1;have m1:i.toNat*s<=S.len d1*s:=L8 _ au;by_cases q1:i' < i.toNat
          ·obtain⟨u,hu,_,hr⟩:=cell1 i' j au au;have hlt:=nU q1 hj;refine⟨u,?_,hdt,?_⟩
           ·rw[Qa9 qa8,LD,Qb hlt,<-c5];exact hu
           ·rw[j4 i' j au,s3 i' j au,BZ];exact hr.keep hk (aEb _)
          ·have m2:i'*s=i.toNat*s+(i' - i.toNat)*s:=by rw[<-QX];congr 1;omega
           rw[Qa6 qa8,uP,show i'*s+j - min (i.toNat*s) xs.length=(i' - i.toNat)*s+j by omega];have j5':=j5 (i' - i.toNat) j au;rw[show S.len dp+(i' - i.toNat)=i' by omega]at j5';rw[j5'];by_cases q2:i' - i.toNat < S.len d2
           ·obtain⟨u,hu,hda,hr⟩:=cell2 (i' - i.toNat) j q2 au;have hlt:=nU q2 hj;refine⟨u,?_,by rw[j5']at hdt;exact hdt,?_⟩
            ·rw[Qa9 au,<-c6];exact hu
            ·rw[k4 _ j q2];exact hr.keep hk (aEb _)
           ·obtain⟨u,hu,hda,hr⟩:=cell1 (i' - S.len d2) j au au;have m3:(i' - i.toNat)*s=S.len d2*s+(i' - i.toNat - S.len d2)*s:=by rw[<-QX];congr 1;omega
            have m4:(i' - S.len d2)*s=i.toNat*s+(i' - i.toNat - S.len d2)*s:=by rw[<-QX];congr 1;omega
            have k5':=k5 (i' - i.toNat - S.len d2) j au;rw[show S.len d2+(i' - i.toNat - S.len d2)=i' - i.toNat by omega]at k5';refine⟨u,?_,by rw[j5']at hdt;exact hdt,?_⟩
            ·rw[Qa6 au,Qbk,hyl,show i.toNat*s+((i' - i.toNat)*s+j - S.len d2*s)=(i' - S.len d2)*s+j by omega,<-c5];exact hu
            ·rw[k5',t3 _ j au,show i.toNat+(i' - i.toNat - S.len d2)=i' - S.len d2 by omega];exact hr.keep hk (aEb _))
       obtain⟨f1,f2⟩:=g1.aHc 1 none rfl (fun bk hbk=>by cases hbk);have htab:∀ee,upd (upd (upd (kQ [Bk.row ee d1,Bk.row ee d2]) 0 none) 2 (some (Bk.row ee d))) 1 none=uO [(2,Bk.row ee d)] [] [Bk.row ee d1,Bk.row ee d2]:=by
        intro ee;funext q;match q with
        | 0=>rfl
        | 1=>rfl
        | 2=>rfl
        | q+3=>simp[upd,kQ,uO,jW,rC]
       rw[htab]at f1 f2;exact⟨v',_,rfl,g3,f1.weaken fun _ _=>trivial,upd_same _ _ _⟩
     ·cases hct
    ·cases hct
   ·cases hct
  ·cases hct
 ·cases hct
end
end Go.Vc
namespace Go.Vc
open Go.RowKit
section
variable {D:Type}{P:Program}{S:Sh D}{T:TypeId->Option Ty}{Γ:FuncId->Option (Ct D)}{M M' N:Nat->Prop}{w w':World}{w0:Bs}{g g':Nat->Option Value}{blk:Nat->Option (Bk D)}{al:Nat->Prop}
 {a:Act} {o:Oper} {K:Act->World->Prop} {Q:Exit->Act->World->Prop} {slot:Nat->Sl D} {out:Out D} {fr:Nat} {ids jr:List Nat}
theorem gX {l:Nat}:∀{ids:List Nat},rC l ids=true ↔ l∈ids
 | []=>by simp[rC]
 | x::r=>by
  simp only[rC,Qbt,gX,yR];constructor
  ·rintro(h | h)
   ·exact .inl (Qa h).symm
   ·exact .inr h
  ·rintro(rfl | h)
   ·exact .inl oJ
   ·exact .inr h
theorem qj:∀(r ids:List Nat),ids.Nodup->(lX ids r).Nodup
 | [],ids,h=>h
 | l::r,ids,h=>by
  unfold lX;refine qj r _ ?_;split
  ·exact h
  ·rename_i hn;rw[List.nodup_append];refine⟨h,by simp,fun x hx y hy=> ?_⟩;simp at hy;subst hy;rintro rfl;exact hn (gX.2 hx)
theorem CV:∀(n:Nat) (ids:List Nat),ids.Nodup->(reach blk n ids).Nodup
 | 0,ids,h=>h
 | n+1,ids,h=>CV n _ (qj _ _ h)
theorem rJ:∀{r:List Nat},allIn ids r=true->∀l∈r,l∈ids
 | [],_,l,hl=>by simp at hl
 | x::r,h,l,hl=>by
  simp only[allIn,jY]at h;rcases yR.1 hl with rfl | hl
  ·exact gX.1 h.1
  ·exact rJ h.2 l hl
theorem pJ:∀{ids:List Nat} {dH:List (Bk D)},uh blk ids=some dH->dH.length=ids.length/\∀(i l:Nat),ids[i]? =some l->∃bk,blk l=some bk/\dH[i]? =some bk
 | [],dH,h=>by simp[uh]at h;subst h;simp
 | x::r,dH,h=>by
  unfold uh at h;split at h
  ·rename_i b bs hb hbs;injection h with h
   subst h;obtain⟨h1,h2⟩:=pJ hbs;refine⟨by simp[h1],fun i l hi=> ?_⟩;cases i with
   | zero=>simp at hi;subst hi;exact⟨b,hb,rfl⟩
   | succ i=>exact h2 i l qcm
  ·cases h
theorem rH:∀{ids:List Nat} {l:Nat},l∈ids->ids[jf ids l]? =some l
 | [],l,h=>by simp at h
 | x::r,l,h=>by
  unfold jf;split
  ·rename_i he;rw[Qa he];rfl
  ·rename_i he;have:l∈r:=by
    rcases yR.1 h with rfl | h
    ·simp at he
    ·exact h
   simpa using rH this
theorem DR (hn:ids.Nodup){i l:Nat}(h:ids[i]? =some l):jf ids l=i:=by
 have hm:l∈ids:=Qbo h;have h2:=rH hm;have hi:=(Qaz.1 h).1;have hj:=(Qaz.1 h2).1;have e1:=(Qaz.1 h).2;have e2:=(Qaz.1 h2).2;exact(List.getElem_inj hn).1 (e2.trans e1.symm)
theorem ac7 {f:Nat->Nat}:∀{caps:List Nat} {vs:List Value},(∀l∈caps,∀v,g l=some v->g' (f l)=some v)->caps.map g=vs.map some->(caps.map f).map g'=vs.map some
 | [],[],_,_=>rfl
 | c::caps,v::vs,hf,h=>by
  simp only[F_,Qdg]at h⊢;exact⟨hf c oJ v h.1,ac7 (fun l hl=>hf l qci) h.2⟩
 | [],_::_,_,h=>by simp at h
 | _::_,[],_,h=>by simp at h
theorem Lf.Rel.ren {f:Nat->Nat}{x:Lf D}{v:Value}(h:x.Rel S M w g v)(hf:∀l∈x.refs,∀u,g l=some u->g' (f l)=some u)(hM:x.mZ=true->∀b,M' b->M b):(x.ren f).Rel S M' w g' v:=by
 cases x with
 | ptr l o=>obtain⟨b,h1,h2⟩:=h;exact⟨b,hf l qb3 _ h1,h2⟩
 | own l=>exact hf l qb3 _ h
 | opt l i j sz=>obtain⟨b,n,cap,h1,h2⟩:=h;exact⟨b,n,cap,hf l qb3 _ h1,h2⟩
 | part l i j sz f=>obtain⟨a,n,cap,h1,h2⟩:=h;exact⟨a,n,cap,hf l qb3 _ h1,h2⟩
 | glb i=>exact h
 | Xb x=>exact h
 | xt e=>exact Xt.Rel.mono h (hM rfl)
 | fn f' caps=>obtain⟨vs,h1,h2⟩:=h;exact⟨vs,h1,ac7 hf h2⟩
 | dat d=>exact dA.mono h (hM rfl)
 | elt d i j=>obtain⟨a,n,cap,h1,h2⟩:=h;exact⟨a,n,cap,h1.mono (hM rfl),h2⟩
 | any=>trivial
 | unk p=>exact h
 | val x=>exact h
 | bool b=>exact h
 | int k n=>exact h
 | str s=>exact h
theorem aZ.ren {f:Nat->Nat}:∀{xs:List (Lf D)} {vs:List Value},aZ S M w g xs vs->(∀l∈xs.flatMap Lf.refs,∀u,g l=some u->g' (f l)=some u)->(xs.any Lf.mZ=true->∀b,M' b->M b)->aZ S M' w g' (xs.map (Lf.ren f)) vs
 | [],[],_,_,_=>trivial
 | x::xs,v::vs,h,hf,hM=>by
  simp only[List.any_cons,Qbt]at hM;exact⟨h.1.ren (fun l hl=>hf l qci) (fun hd=>hM (.inl hd)),aZ.ren h.2 (fun l hl=>hf l qb6) (fun hd=>hM (.inr hd))⟩
theorem Sv.Rel.ren {f:Nat->Nat}{x:Sv D}{v:Value}(h:x.Rel S M w g v)(hf:∀l∈x.refs,∀u,g l=some u->g' (f l)=some u)(hM:x.mZ=true->∀b,M' b->M b):(x.ren f).Rel S M' w g' v:=by
 cases x with
 | lf x=>exact Lf.Rel.ren h hf hM
 | agg xs=>obtain⟨vs,h1,h2⟩:=h;exact⟨vs,h1,h2.ren hf hM⟩
theorem iI.ren {f:Nat->Nat}:∀{xs:List (Sv D)} {vs:List Value},iI S M w g xs vs->(∀l∈xs.flatMap Sv.refs,∀u,g l=some u->g' (f l)=some u)->(xs.any Sv.mZ=true->∀b,M' b->M b)->iI S M' w g' (xs.map (Sv.ren f)) vs
 | [],[],_,_,_=>trivial
 | x::xs,v::vs,h,hf,hM=>by
  simp only[List.any_cons,Qbt]at hM;exact⟨h.1.ren (fun l hl=>hf l qci) (fun hd=>hM (.inl hd)),iI.ren h.2 (fun l hl=>hf l qb6) (fun hd=>hM (.inr hd))⟩
theorem Sl.Rel.ren {f:Nat->Nat}{x:Sl D}{v:Value}(h:x.Rel S M w g v)(hf:∀l∈x.refs,∀u,g l=some u->g' (f l)=some u)(hM:x.mZ=true->∀b,M' b->M b):(x.ren f).Rel S M' w g' v:=by
 cases x with
 | one x=>exact Sv.Rel.ren h hf hM
 | xx xs=>obtain⟨vs,h1,h2⟩:=h;exact⟨vs,h1,h2.ren hf hM⟩
theorem Jf {f:Nat->Nat}(x:Option (Bk D)):hot (x.map (Bk.ren f))=hot x:=by
 cases x with
 | none=>rfl
 | some bk=>cases bk<;>rfl
theorem VB {f:Nat->Nat}{x:Lf D}(h:x.jJ=true):x.ren f=x:=by cases x<;>first | rfl | simp[Lf.jJ]at h
theorem aeq {x:Lf D}(h:x.jJ=true):x.refs=[]:=by cases x<;>first | rfl | simp[Lf.jJ]at h
theorem xJ.ren {f:Nat->Nat}{B B':Bs}{bk:Bk D}{v:Value}(h:xJ S M w g B bk v)(hf:∀l∈bk.refs,∀u,g l=some u->g' (f l)=some u)(hM:bk.mZ=true->∀b,M' b->M b)
  (hB:hot (some bk)=true->∀b,d_ v=some b->B'.Mine b):xJ S M' w g' B' (bk.ren f) v:=by
 cases bk with
 | cells cs=>
  obtain⟨b,vs,t,rfl,_,hh,hr⟩:=h;exact⟨b,vs,t,rfl,hB rfl b rfl,hh,hr.ren hf hM⟩
 | row e d=>
  obtain⟨hm,xs,hown,hc⟩:=h;refine⟨⟨hB rfl,hm.2⟩,xs,hown,fun i j hi hj=> ?_⟩;obtain⟨u,h1,h2,h3⟩:=hc i j hi hj;have:=h3.ren (g':=g') (M':=M') (f:=f) (fun l hl=>by rw[aeq h2]at hl;simp at hl) (fun _=>hM rfl);rw[VB h2]at this;exact⟨u,h1,h2,this⟩
 | wE d=>exact dA.mono h (hM rfl)
 | iter s p=>
  obtain⟨hl,b,rfl,_,hh⟩:=h;exact⟨hl,b,rfl,hB rfl b rfl,hh⟩
 | map d=>
  obtain⟨m,b,es,n,hm,hf,rfl,_,hh,hr⟩:=h;exact⟨m,b,es,n,hm,hf,rfl,hB rfl b rfl,hh,hr⟩
 | tc t cs=>
  obtain⟨b,vs,rfl,_,hh,hr⟩:=h;exact⟨b,vs,rfl,hB rfl b rfl,hh,hr.ren hf hM⟩
def Nc (N:Nat->Prop)(blk:Nat->Option (Bk D))(g:Nat->Option Value)(ids jr:List Nat):Nat->Prop:=
 fun b=>N b\/∃l v,hot (blk l)=true/\l∉ids/\l∉jr/\g l=some v/\d_ v=some b
def Xc (blk:Nat->Option (Bk D))(g:Nat->Option Value)(ids:List Nat):Nat->Prop:=fun b=>∃l v,hot (blk l)=true/\l∈ids/\g l=some v/\d_ v=some b
def gc (g:Nat->Option Value)(ids:List Nat):Nat->Option Value:=fun i=>(ids[i]?).bind g
theorem aaM {l:Nat}(h:l∈ids):gc g ids (jf ids l)=g l:=by simp[gc,rH h]
theorem Hp.mine (h:Hp S w0 N blk g al w){l b:Nat}{v:Value}(h1:hot (blk l)=true)(h2:g l=some v)(h3:d_ v=some b):b < w.heap.size/\w0.Mine b:=by
 obtain⟨bk,_,hh,hok⟩:=h.at h1 h2;exact hok.lt hh h3
theorem Hp.afc (h:Hp S w0 N blk g al w){l b:Nat}{v:Value}(h1:hot (blk l)=true)(h2:g l=some v)(h3:d_ v=some b):¬N b:=fun hn=>by
 obtain⟨q1,q2⟩:=h.hN b hn;rcases(h.mine h1 h2 h3).2 with q | q
 ·omega
 ·exact q2 q
theorem abr {dH:List (Bk D)}(hg:uh blk ids=some dH){f:Nat->Nat}{i:Nat}{bk:Bk D}(h:kQ (dH.map (Bk.ren f)) i=some bk):∃l qO,ids[i]? =some l/\blk l=some qO/\qO∈dH/\bk=qO.ren f:=by
 obtain⟨hl,hat⟩:=pJ hg;simp only[kQ,Qbb,Qcm]at h;obtain⟨qO,h0,rfl⟩:=h;have hi:i < ids.length:=by rw[<-hl];exact(Qaz.1 h0).1
 obtain⟨bk1,h1,h2⟩:=hat i ids[i] (Wy hi);rw[h0]at h2;injection h2 with h2
 subst h2;exact⟨ids[i],qO,Wy hi,h1,Qbo h0,rfl⟩
theorem uY {dH:List (Bk D)}(hg:uh blk ids=some dH){f:Nat->Nat}:∀b,aW (Nc N blk g ids jr) (kQ (dH.map (Bk.ren f))) (gc g ids) b->aW N blk g b/\(N b\/∃l v,hot (blk l)=true/\l∉jr/\g l=some v/\d_ v=some b\/l∈ids/\hot (blk l)=true/\g l=some v/\d_ v=some b):=by
 rintro b ((hb | ⟨l,v,h1,h2,h3,h4,h5⟩) | ⟨i,v,h1,h2,h3⟩)
 ·exact⟨.inl hb, .inl hb⟩
 ·exact⟨.inr ⟨l,v,h1,h4,h5⟩, .inr ⟨l,v, .inl ⟨h1,h3,h4,h5⟩⟩⟩
 ·obtain⟨bk,hbk,hh⟩:=jU h1;obtain⟨l,qO,hl,hb0,_,rfl⟩:=abr hg hbk;have hgl:g l=some v:=by simpa[gc,hl]using h2
  have hh0:hot (blk l)=true:=by rw[hb0];have:=Jf (f:=f) (some qO);simp only[GZ]at this;rw[<-this];exact hh
  exact⟨.inr ⟨l,v,hh0,hgl,h3⟩, .inr ⟨l,v, .inr ⟨Qbo hl,hh0,hgl,h3⟩⟩⟩
theorem Hp.lend (h:Hp S w0 N blk g al w){dH:List (Bk D)}(hn:ids.Nodup)(hg:uh blk ids=some dH)(hrefs:∀bk∈dH,∀l∈bk.refs,l∈ids)(hv:∀l∈jr,l∉ids):
  Hp S ⟨w,Xc blk g ids⟩ (Nc N blk g ids jr) (kQ (dH.map (Bk.ren (jf ids)))) (gc g ids) (· < (dH.map (Bk.ren (jf ids))).length) w:=by
 obtain⟨hlen,hat⟩:=pJ hg;refine⟨Ee.refl ⟨w,Xc blk g ids⟩,?_,?_,?_,?_,?_,h.gl.mono fun b hb=>(uY hg b hb).1⟩
 ·rintro b (hb | ⟨l,v,h1,h2,h3,h4,h5⟩)
  ·refine⟨h.mlt (.inl hb),?_⟩;rintro⟨l,v,h1,h2,h3,h4⟩;exact h.afc h1 h3 h4 hb
  ·refine⟨h.mlt (.inr ⟨l,v,h1,h4,h5⟩),?_⟩;rintro⟨l',v',q1,q2,q3,q4⟩;have:=h.sep l l' v v' b h1 q1 h4 q3 h5 q4;subst this;exact h2 q2
 ·intro i bk hi;obtain⟨l,qO,hl,hb0,hmem,rfl⟩:=abr hg hi;obtain⟨v,hv0,hok⟩:=h.dH l qO hb0;refine⟨v,by simp[gc,hl,hv0],hok.ren (fun l' hl' u hu=> ?_) (fun _ b hb=>(uY hg b hb).1) (fun hh b hb=> .inr ⟨l,v,by rw[hb0];exact hh,Qbo hl,hv0,hb⟩)⟩;rw[aaM (hrefs _ hmem l' hl')];exact hu
 ·intro i j vi vj b hi hj hgi hgj hbi hbj;obtain⟨bki,aD5,hhi⟩:=jU hi;obtain⟨bkj,aD6,hhj⟩:=jU hj;obtain⟨l,qO,hl,hb0,_,rfl⟩:=abr hg aD5;obtain⟨l',ahX,hl',aD4,_,rfl⟩:=abr hg aD6;have e1:hot (blk l)=true:=by rw[hb0];have:=Jf (f:=jf ids) (some qO);simp only[GZ]at this;rw[<-this];exact hhi
  have e2:hot (blk l')=true:=by rw[aD4];have:=Jf (f:=jf ids) (some ahX);simp only[GZ]at this;rw[<-this];exact hhj
  have:=h.sep l l' vi vj b e1 e2 (by simpa[gc,hl]using hgi) (by simpa[gc,hl']using hgj) hbi hbj;subst this;rw[<-DR hn hl,<-DR hn hl']
 ·intro i v hi;simp only[gc]at hi;cases hl:ids[i]? with
  | none=>rw[hl]at hi;cases hi
  | some l=>simp only[Qbl,hlen];exact(Qaz.1 hl).1
 ·intro i v hi;simp only[gc]at hi;cases hl:ids[i]? with
  | none=>rw[hl]at hi;cases hi
  | some l=>rw[hl]at hi;exact h.refs l v hi
end
end Go.Vc
namespace Go.Vc
open Go.RowKit
section
variable {D:Type}{P:Program}{S:Sh D}{T:TypeId->Option Ty}{Γ:FuncId->Option (Ct D)}{M M' N:Nat->Prop}{w w':World}{w0:Bs}{g g':Nat->Option Value}{blk blk':Nat->Option (Bk D)}{al:Nat->Prop}
 {a:Act} {o:Oper} {K:Act->World->Prop} {Q:Exit->Act->World->Prop} {slot:Nat->Sl D} {out:Out D} {fr:Nat} {ids jr:List Nat}
theorem IV (h:Hp S w0 N blk g al w){c:Nat}{e:TypeId}{d:D}{v:Value}{M':Nat->Prop}(hb:blk c=some (.row e d))(hg:g c=some v)(hM:∀b,M' b->aW N blk g b)(hn:∀b,d_ v=some b->¬M' b):
  dA S M' w d v:=by
 intro w' hs;obtain⟨v',hv',hm,xs,hown,hcell⟩:=h.dH c _ hb;rw[hg]at hv';injection hv' with hv'
 subst hv';rcases hown.2 with⟨rfl,h0⟩ | ⟨b,cap,cur,rfl,_,hh,hnc,_,hcs,htake⟩
 ·have:=Ac.mk (S:=S) (w:=w') d hm.2.2 none 0 (fun _ _=> .bool false) au au (fun i j hi _=>by omega) (fun i j hi _=>by omega) (fun i j _ hi _=>by omega);rwa [h0]at this
 ·have hb':w'.heap[b]? =some (.cells cur e (0,0)):=(hs b (sJ hh) (hn b rfl)).trans hh;have key:∀i j,i < S.len d->j < S.size d->∃u,cur[i*S.size d+j]? =some u/\Lf.plain (S.cell d i j) u/\∀d',S.cell d i j= .dat d'->Ac S w' d' u:=by
   intro i j hi hj;obtain⟨u,hu,hda,hr⟩:=hcell i j hi hj;have hlt:=nU hi hj;have:cur[i*S.size d+j]? =some u:=by
    rw[<-htake,LD,Qb hlt]at hu;simpa using hu
   have hr':(S.cell d i j).Rel S M' w g u:=by
    have:=hr.ren (g':=g) (M':=M') (f:=fun x=>x) (fun l _ u hu=>hu) (fun _=>hM);rw[VB hda]at this;exact this
   exact⟨u,this,Ht hda hr' hs⟩
  refine Ac.mk (S:=S) (w:=w') d hm.2.2 (some ⟨b,0,none⟩) cap (fun i j=>(cur[i*S.size d+j]?).getD undef) hnc hm.2.1 (fun i j hi hj=> ?_) (fun i j hi hj=> ?_) (fun i j d' hi hj he=> ?_)
  ·obtain⟨u,hu,_⟩:=key i j hi hj;refine⟨_,rfl,?_⟩;simp only[hu,Qc9];rw[lq,BZ];simp[World.cell?,hb',<-hu]
  ·obtain⟨u,hu,hp,_⟩:=key i j hi hj;simpa[hu]using hp
  ·obtain⟨u,hu,_,hd⟩:=key i j hi hj;simpa[hu]using hd d' he
theorem aiD (hS:∀d m,S.mp d=some m->S.len d=0/\S.size d=0)(h:Hp S w0 N blk g al w){c:Nat}{d:D}{v:Value}{M':Nat->Prop}(hb:blk c=some (.map d))(hg:g c=some v)(hn:∀b,d_ v=some b->¬M' b):
  dA S M' w d v:=by
 intro w' hs;obtain⟨v',hv',m,b,es,n,hm,hf,rfl,_,hh,he⟩:=h.dH c _ hb;rw[hg]at hv';injection hv' with hv'
 subst hv';obtain⟨h1,h2⟩:=hS _ _ hm;exact .mp d m _ hm h1 h2 ⟨hf, .inr ⟨b,es,n,rfl,(hs b (sJ hh) (hn b rfl)).trans hh,he⟩⟩
theorem IY {bk:Option (Bk D)}{d:D}(h:rwD bk=some d):hot bk=true:=by
 unfold rwD at h;split at h<;>first | rfl | cases h
theorem ahw (hS:jd S)(h:Hp S w0 N blk g al w){c:Nat}{d:D}{v:Value}{M':Nat->Prop}(hb:rwD (blk c)=some d)(hg:g c=some v)(hM:∀b,M' b->aW N blk g b)(hn:∀b,d_ v=some b->¬M' b):
  dA S M' w d v:=by
 unfold rwD at hb;split at hb
 ·rename_i e d' hc;injection hb with hb
  subst hb;exact IV h hc hg hM hn
 ·rename_i d' hc;injection hb with hb
  subst hb;exact aiD (fun d m hm=>⟨(hS.zi d m hm).1,(hS.zi d m hm).2.1⟩) h hc hg hn
 ·cases hb
def xg (g gc':Nat->Option Value)(ids:List Nat)(fr:Nat):Nat->Option Value:=fun l=>
 match g l with
 | some u=>some u
 | none=>if fr<=l/\l < fr+64 then gc' (ids.length+(l - fr))else none
theorem A8 {gc':Nat->Option Value}:More g (xg g gc' ids fr):=fun l v hl=>by simp[xg,hl]
structure Back (blk blk':Nat->Option (Bk D))(tab:Nat->Option (Bk D))(ids jr:List Nat)(fr:Nat)(fz:Bool):Prop where
 b1:∀l∈ids,blk' l=(tab (jf ids l)).map (Bk.ren (backTo ids fr))
 b2:∀j,j < 64->blk' (fr+j)=(tab (ids.length+j)).map (Bk.ren (backTo ids fr))
 b3:∀l∈jr,fz=true->(∃d,rwD (blk l)=some d/\blk' l=some (.wE d))\/(hot (blk l)=false/\blk' l=blk l)
 b4:∀l,l∉ids->(fz=true->l∉jr)->¬(fr<=l/\l < fr+64)->blk' l=blk l
theorem Hp.back (hS:jd S)(h:Hp S w0 N blk g al w){dH:List (Bk D)}{tab:Nat->Option (Bk D)}{gc':Nat->Option Value}{fz:Bool}(hfr:∀n,fr<=n->n < fr+64->¬al n)(hn:ids.Nodup)(hg:uh blk ids=some dH)(hv:∀l∈jr,l∉ids)
  (hm:More (gc g ids) gc') (hc:Hp S ⟨w,Xc blk g ids⟩ (Nc N blk g ids jr) (tab) gc' (fun _=>True) w') (hb:Back blk blk' tab ids jr fr fz)
  (aIk:∀i,(tab i).isSome=true->i < ids.length+64) (hrefs:∀i bk,tab i=some bk->∀l∈bk.refs,(tab l).isSome=true) (hfz:∀i bk,tab i=some bk->bk.mZ=true->fz=true):
  Hp S w0 N blk' (xg g gc' ids fr) (fun n=>al n\/(fr<=n/\n < fr+64)) w'/\Keeps (aW N blk g) w (aW N blk' (xg g gc' ids fr)) w'/\
   (fz=true->∀b,aW N blk' (xg g gc' ids fr) b->aW (Nc N blk g ids jr) (tab) gc' b)/\
   ∀i,(tab i).isSome=true->∀u,gc' i=some u->xg g gc' ids fr (backTo ids fr i)=some u:=by
 obtain⟨hlen,hat⟩:=pJ hg;have aHg:∀l∈ids,∃u,g l=some u:=fun l hl=>by
  obtain⟨bk,hbk,_⟩:=hat _ l (rH hl);obtain⟨v,hv,_⟩:=h.dH l bk hbk;exact⟨v,hv⟩
 have glt:∀l u,g l=some u->¬(fr<=l/\l < fr+64):=fun l u hl hle=>hfr l hle.1 hle.2 (h.al l u hl)
 have aHf:∀l,fr<=l->l < fr+64->g l=none:=fun l hl hl2=>by
  cases e:g l with
  | none=>rfl
  | some u=>exact absurd ⟨hl,hl2⟩ (glt l u e)
 have gb:∀i,(tab i).isSome=true->∀u,gc' i=some u->xg g gc' ids fr (backTo ids fr i)=some u:=by
  intro i hi u hu;unfold backTo;by_cases hlt:i < ids.length
  ·rw[Qb qb5];have hl:ids[i]? =some (ids.getD i 0):=by simp[List.getD,hlt]
   obtain⟨u0,hu0⟩:=aHg _ (Qbo hl);have:gc' i=some u0:=hm i u0 (by unfold gc;rw[hl];exact hu0);rw[this]at hu;injection hu with hu
   subst hu;exact A8 _ _ hu0
  ·rw[qC qb5];have:=aIk i hi;simp only[xg,aHf (fr+(i - ids.length)) au au];rw[Qb au];have e:ids.length+(fr+(i - ids.length) - fr)=i:=by omega
   rw[e];exact hu
 have from':∀l bk,blk' l=some bk->(∃i qO,tab i=some qO/\bk=qO.ren (backTo ids fr)/\l=backTo ids fr i)\/
   (l∉ids/\¬(fr<=l/\l < fr+64)/\blk l=some bk/\(hot (some bk)=true->fz=true->l∉jr))\/(fz=true/\l∈jr/\∃d,rwD (blk l)=some d/\bk= .wE d):=by
  intro l bk hl;by_cases h1:l∈ids
  ·rw[hb.b1 l h1]at hl;obtain⟨qO,q1,rfl⟩:=Qcm.1 hl;refine .inl ⟨_,qO,q1,rfl,?_⟩;unfold backTo;have:=rH h1;have hlt:=(Qaz.1 this).1;rw[Qb qb5];simp[List.getD,this]
  ·by_cases h2:fr<=l/\l < fr+64
   ·obtain⟨j,rfl⟩:∃j,l=fr+j:=⟨l - fr,by omega⟩;rw[hb.b2 j au]at hl;obtain⟨qO,q1,rfl⟩:=Qcm.1 hl;refine .inl ⟨_,qO,q1,rfl,?_⟩;unfold backTo;rw[qC (by simp[Gf])];omega
   ·by_cases h3:fz=true/\l∈jr
    ·rcases hb.b3 l h3.2 h3.1 with⟨d,q1,q2⟩ | ⟨q1,q2⟩
     ·rw[q2]at hl;injection hl with hl
      exact .inr (.inr ⟨h3.1,h3.2,d,q1,hl.symm⟩)
     ·rw[q2]at hl;obtain⟨u,hu,_⟩:=h.dH l bk hl;exact .inr (.inl ⟨h1,glt l u hu,hl,fun hh=>by rw[hl]at q1;rw[q1]at hh;cases hh⟩)
    ·have q:=hb.b4 l h1 (fun e hm=>h3 ⟨e,hm⟩) h2;rw[q]at hl;obtain⟨u,hu,_⟩:=h.dH l bk hl;exact .inr (.inl ⟨h1,glt l u hu,hl,fun _ e hm=>h3 ⟨e,hm⟩⟩)
 have VW:∀(f:Nat->Nat) (bk:Bk D),hot (some (bk.ren f))=hot (some bk):=fun f bk=>by cases bk<;>rfl
 have left:∀i bk v b,tab i=some bk->hot (some bk)=true->gc' i=some v->d_ v=some b->b < w'.heap.size/\(w.heap.size<=b\/Xc blk g ids b):=by
  intro i bk v b h1 h2 h3 h4;exact hc.mine (by rw[h1];exact h2) h3 h4
 have xm:∀b,Xc blk g ids b->aW N blk g b:=fun b ⟨l,v,h1,h2,h3,h4⟩=> .inr ⟨l,v,h1,h3,h4⟩
 have aAo:∀b,Xc blk g ids b->w0.Mine b:=fun b ⟨l,v,h1,h2,h3,h4⟩=>(h.mine h1 h3 h4).2
 have auI:∀l v b,hot (blk l)=true->l∉ids->g l=some v->d_ v=some b->¬Xc blk g ids b:=by
  rintro l v b h1 h2 h3 h4 ⟨l',v',q1,q2,q3,q4⟩;have:=h.sep l l' v v' b h1 q1 h3 q3 h4 q4;subst this;exact h2 q2
 have hsame:∀b,b < w.heap.size->¬Xc blk g ids b->w'.heap[b]? =w.heap[b]? :=fun b h1 h2=>hc.below.block b h1 h2
 have gold:∀l,¬(fr<=l/\l < fr+64)->xg g gc' ids fr l=g l:=fun l hl=>by
  unfold xg;cases e:g l with
  | some u=>rfl
  | none=>simp[hl]
 have aIJ:∀l bk,blk l=some bk->∃v,g l=some v:=fun l bk hl=>by obtain⟨v,hv,_⟩:=h.dH l bk hl;exact⟨v,hv⟩
 have VU:∀i bk,tab i=some bk->∃v,gc' i=some v/\xg g gc' ids fr (backTo ids fr i)=some v:=fun i bk hi=>by
  obtain⟨v,hv,_⟩:=hc.dH i bk hi;exact⟨v,hv,gb i (by rw[hi];rfl) v hv⟩
 have hk:Keeps (aW N blk g) w (aW N blk' (xg g gc' ids fr)) w':=by
  refine⟨hc.below.size,fun b hlt hmb=>⟨?_,hsame b hlt fun q=>hmb (xm b q)⟩⟩;rintro(hnb | ⟨l,v,h1,h2,h3⟩)
  ·exact hmb (.inl hnb)
  ·obtain⟨bk,hbk,hh⟩:=jU h1;rcases from' l bk hbk with⟨i,qO,q1,rfl,rfl⟩ | ⟨q1,q2,q3,_⟩ | ⟨_,_,d,_,rfl⟩
   ·obtain⟨v0,e1,e2⟩:=VU i qO q1;rw[h2]at e2;injection e2 with e2
    subst e2;rw[VW]at hh;rcases(left i qO v b q1 hh e1 h3).2 with q | q
    ·omega
    ·exact hmb (xm b q)
   ·rw[gold l q2]at h2;exact hmb (.inr ⟨l,v,by rw[q3];exact hh,h2,h3⟩)
   ·simp[hot]at hh
 have hsub:fz=true->∀b,aW N blk' (xg g gc' ids fr) b->aW (Nc N blk g ids jr) (tab) gc' b:=by
  rintro hz b (hnb | ⟨l,v,h1,h2,h3⟩)
  ·exact .inl (.inl hnb)
  ·obtain⟨bk,hbk,hh⟩:=jU h1;rcases from' l bk hbk with⟨i,qO,q1,rfl,rfl⟩ | ⟨q1,q2,q3,q4⟩ | ⟨_,_,d,_,rfl⟩
   ·obtain⟨v0,e1,e2⟩:=VU i qO q1;rw[h2]at e2;injection e2 with e2
    subst e2;rw[VW]at hh;exact .inr ⟨i,v,by rw[q1];exact hh,e1,h3⟩
   ·rw[gold l q2]at h2;exact .inl (.inr ⟨l,v,by rw[q3];exact hh,q1,q4 hh hz,h2,h3⟩)
   ·simp[hot]at hh
 refine⟨⟨⟨hc.below.os.trans h.below.os,hc.below.tape.trans h.below.tape,hc.below.output.trans h.below.output,Ak h.below.size hc.below.size,fun k hk' hx=> ?_⟩,h.hN,fun l bk hl=> ?_,?_,?_,?_,h.gl.keep hk⟩,hk,hsub,gb⟩
 ·refine(hsame k (Qce hk' h.below.size) fun q=> ?_).trans (h.below.block k hk' hx);rcases aAo k q with q | q
  ·omega
  ·exact hx q
 ·rcases from' l bk hl with⟨i,qO,q1,rfl,rfl⟩ | ⟨q1,q2,q3,q4⟩ | ⟨hz,hlv,d,q,rfl⟩
  ·obtain⟨v,e1,hok⟩:=hc.dH i qO q1;refine⟨v,gb i (by rw[q1];rfl) v e1,hok.ren (fun l' hl' u hu=>gb l' (hrefs i qO q1 l' hl') u hu) (fun hd=>hsub (hfz i qO q1 hd)) (fun hh b hbv=> ?_)⟩;rcases(left i qO v b q1 hh e1 hbv).2 with q | q
   ·exact .inl (Ak h.below.size q)
   ·exact aAo b q
  ·obtain⟨v,hv0,hok⟩:=h.dH l bk q3;refine⟨v,by rw[gold l q2];exact hv0,hok.keep hk A8 fun hh b hbv=> ?_⟩;have hhl:hot (blk l)=true:=by rw[q3];exact hh
   exact hsame b (h.mine hhl hv0 hbv).1 (auI l v b hhl q1 hv0 hbv)
  ·have hq:=IY q;obtain⟨bkq,hbq,_⟩:=jU hq;obtain⟨v,hv0,_⟩:=h.dH l _ hbq;refine⟨v,A8 _ _ hv0,?_⟩;have hd0:dA S (fun b=>aW N blk g b/\d_ v≠some b) w d v:=ahw hS h q hv0 (fun b hb=>hb.1) (fun b hb hb'=>hb'.2 hb);refine hd0.keep ⟨hc.below.size,fun b hlt hmb=>⟨fun hb'=> ?_,hsame b hlt fun hx=> ?_⟩⟩
   ·
    have hmem:=hsub hz b hb';by_cases hvb:d_ v=some b
    ·rcases hmem with(hnb | ⟨l',v',r1,r2,r3,r4,r5⟩) | ⟨i,v',r1,r2,r3⟩
     ·exact h.afc hq hv0 hvb hnb
     ·have:=h.sep l l' v v' b hq r1 hv0 r4 hvb r5;subst this;exact r3 hlv
     ·obtain⟨bk,hbk,hh⟩:=jU r1;rcases(left i bk v' b hbk hh r2 r3).2 with r | r
      ·omega
      ·exact auI l v b hq (hv l hlv) hv0 hvb r
    ·exact hmb ⟨by
      rcases hmem with(hnb | ⟨l',v',r1,r2,r3,r4,r5⟩) | ⟨i,v',r1,r2,r3⟩
      ·exact .inl hnb
      ·exact .inr ⟨l',v',r1,r4,r5⟩
      ·obtain⟨bk,hbk,hh⟩:=jU r1;rcases(left i bk v' b hbk hh r2 r3).2 with r | r
       ·omega
       ·exact xm b r,hvb⟩
   ·by_cases hvb:d_ v=some b
    ·exact auI l v b hq (hv l hlv) hv0 hvb hx
    ·exact hmb ⟨xm b hx,hvb⟩
 ·intro l l' v v' b h1 h2 h3 h4 h5 h6;obtain⟨bk,hbk,hh⟩:=jU h1;obtain⟨bk',hbk',hh'⟩:=jU h2;rcases from' l bk hbk with⟨i,qO,q1,rfl,rfl⟩ | ⟨q1,q2,q3,q4⟩ | ⟨_,_,d,_,rfl⟩
  ·obtain⟨v0,e1,e2⟩:=VU i qO q1;rw[h3]at e2;injection e2 with e2
   subst e2;rw[VW]at hh;rcases from' l' bk' hbk' with⟨i',ahX,q1',rfl,rfl⟩ | ⟨q1',q2',q3',q4'⟩ | ⟨_,_,d,_,rfl⟩
   ·obtain⟨v0',e1',e2'⟩:=VU i' ahX q1';rw[h4]at e2';injection e2' with e2'
    subst e2';rw[VW]at hh';rw[hc.sep i i' v v' b (by rw[q1];exact hh) (by rw[q1'];exact hh') e1 e1' h5 h6]
   ·rw[gold l' q2']at h4;have hhl:hot (blk l')=true:=by rw[q3'];exact hh'
    rcases(left i qO v b q1 hh e1 h5).2 with q | q
    ·have:=(h.mine hhl h4 h6).1;omega
    ·exact absurd q (auI l' v' b hhl q1' h4 h6)
   ·simp[hot]at hh'
  ·rw[gold l q2]at h3;have hhl:hot (blk l)=true:=by rw[q3];exact hh
   rcases from' l' bk' hbk' with⟨i',ahX,q1',rfl,rfl⟩ | ⟨q1',q2',q3',q4'⟩ | ⟨_,_,d,_,rfl⟩
   ·obtain⟨v0',e1',e2'⟩:=VU i' ahX q1';rw[h4]at e2';injection e2' with e2'
    subst e2';rw[VW]at hh';rcases(left i' ahX v' b q1' hh' e1' h6).2 with q | q
    ·have:=(h.mine hhl h3 h5).1;omega
    ·exact absurd q (auI l v b hhl q1 h3 h5)
   ·rw[gold l' q2']at h4;exact h.sep l l' v v' b hhl (by rw[q3'];exact hh') h3 h4 h5 h6
   ·simp[hot]at hh'
  ·simp[hot]at hh
 ·intro n u hn;unfold xg at hn;split at hn
  ·rename_i u' hu';exact .inl (h.al n u' hu')
  ·split at hn
   ·rename_i q;exact .inr q
   ·cases hn
 ·intro n u hn;unfold xg at hn;split at hn
  ·rename_i u' hu';injection hn with hn;subst hn;exact h.refs n _ hu'
  ·split at hn
   ·exact hc.refs _ _ hn
   ·cases hn
end
end Go.Vc
namespace Go.Vc
open Go.RowKit
section
variable {D:Type}{P:Program}{S:Sh D}{T:TypeId->Option Ty}{Γ:FuncId->Option (Ct D)}{M M' N:Nat->Prop}{w w':World}{w0:Bs}{g g':Nat->Option Value}{blk blk':Nat->Option (Bk D)}{al:Nat->Prop}
 {a:Act} {o:Oper} {K:Act->World->Prop} {Q:Exit->Act->World->Prop} {slot:Nat->Sl D} {out:Out D} {fr:Nat} {ids jr:List Nat}
theorem aAY {i n:Nat}(h:n<=i):Nat.blt i n=false:=by
 cases e:Nat.blt i n with
 | false=>rfl
 | true=>
  have:i < n:=Gf▸e;omega
theorem wP {α:Type}{k:Nat}:∀{kv:List (Nat×α)} {f:Nat->α},(∀v,(k,v)∉kv)->lG f kv k=f k
 | [],_,_=>rfl
 | (k0,v0)::r,f,h=>by
  show lG (upd f k0 v0) r k=f k
  rw[wP fun v hv=>h v (Qbz _ hv)];exact bK _ _ _ _ (by rintro rfl;exact h v0 oJ)
theorem Q5 {α:Type}{k:Nat}{v:α}:∀{kv:List (Nat×α)} {f:Nat->α},(k,v)∈kv->(∀v',(k,v')∈kv->v'=v)->lG f kv k=v
 | [],_,h,_=>by simp at h
 | (k0,v0)::r,f,h,hu=>by
  show lG (upd f k0 v0) r k=v
  by_cases hr:∃v',(k,v')∈r
  ·obtain⟨v',hv'⟩:=hr;have:=hu v' (Qbz _ hv');subst this;exact Q5 hv' fun v'' h''=>hu v'' (Qbz _ h'')
  ·rw[wP fun v' hv'=>hr ⟨v',hv'⟩];rcases yR.1 h with h | h
   ·injection h with h1 h2
    subst h1 h2;exact upd_same _ _ _
   ·exact absurd ⟨v,h⟩ hr
theorem rM:∀{l:List (Nat×Bk D)} {i:Nat} {bk:Bk D},jW l i=some bk->(i,bk)∈l
 | [],i,bk,h=>by simp[jW]at h
 | (k,v)::r,i,bk,h=>by
  unfold jW at h;split at h
  ·rename_i he;injection h with h
   rw[<-Qa he,h];simp
  ·exact Qbz _ (rM h)
theorem VD:∀{l:List (Nat×Bk D)} {i:Nat} {bk:Bk D},nodupB l=true->(i,bk)∈l->jW l i=some bk
 | [],i,bk,_,h=>by simp at h
 | (k,v)::r,i,bk,hn,h=>by
  simp only[nodupB,jY,Qbi,Qck]at hn;unfold jW;rcases yR.1 h with h | h
  ·injection h with h1 h2
   subst h1 h2;rw[Qb oJ]
  ·have hne:Nat.beq k i=false:=by
    have:=hn.1 _ h;simp only[Bool.not_eq_true]at this;cases e:Nat.beq k i with
    | false=>rfl
    | true=>
     have:=Qa e;subst this;simp at*
   rw[hne];exact VD hn.2 h
theorem aaW {l:List (Nat×Bk D)}{i:Nat}(h:i∈l.map (·.1)):(jW l i).isSome=true:=by
 induction l with
 | nil=>simp at h
 | cons p r ih=>
  obtain⟨k,v⟩:=p;unfold jW;split
  ·rfl
  ·rename_i he;simp only[F_,yR]at h;rcases h with rfl | h
   ·simp at he
   ·exact ih h
theorem Ho {k:Nat}:∀{l:List (Nat×Bk D)},Qn k l=true->∀i bk,(i,bk)∈l->i < k+64
 | [],_,i,bk,h=>by simp at h
 | (j,v)::r,hf,i,bk,h=>by
  simp only[Qn,jY]at hf;rcases yR.1 h with h | h
  ·injection h with h1 h2
   subst h1;simpa[Gf]using hf.1
  ·exact Ho hf.2 i bk h
theorem iw.ren {f:Nat->Nat}:∀{xs:List (Sl D)} {vs:List Value},iw S M w g xs vs->(∀l∈xs.flatMap Sl.refs,∀u,g l=some u->g' (f l)=some u)->iw S M w g' (xs.map (Sl.ren f)) vs
 | [],[],_,_=>trivial
 | x::xs,v::vs,h,hf=>⟨h.1.ren (fun l hl=>hf l qci) (fun _ _ hb=>hb),iw.ren h.2 (fun l hl=>hf l qb6)⟩
theorem Lf.Q8 {f h:Nat->Nat}{x:Lf D}(hx:∀l∈x.refs,h (f l)=l):(x.ren f).ren h=x:=by
 cases x with
 | ptr l o=>simp only[Lf.ren];rw[hx l qb3]
 | own l=>simp only[Lf.ren];rw[hx l qb3]
 | opt l i j sz=>simp only[Lf.ren];rw[hx l qb3]
 | part l i j sz f=>simp only[Lf.ren];rw[hx l qb3]
 | fn g caps=>
  simp only[Lf.ren,Qc2];have:caps.map (h∘f)=caps:=by
   have:=Qbn (l:=caps) (f:=h∘f) (g:=id) fun l hl=>hx l hl
   simpa using this
  rw[this]
 | _=>rfl
theorem Bk.Q8 {f h:Nat->Nat}{bk:Bk D}(hx:∀l∈bk.refs,h (f l)=l):(bk.ren f).ren h=bk:=by
 cases bk with
 | cells cs=>
  simp only[Bk.ren,Qc2];have:cs.map (Lf.ren h∘Lf.ren f)=cs:=by
   have:=Qbn (l:=cs) (f:=Lf.ren h∘Lf.ren f) (g:=id) fun x hx'=>Lf.Q8 fun l hl=>hx l (vZ.2 ⟨x,hx',hl⟩)
   simpa using this
  rw[this]
 | row e d=>rfl
 | wE d=>rfl
 | iter s p=>rfl
 | map kvs=>rfl
 | tc t cs=>
  simp only[Bk.ren,Qc2];have:cs.map (Lf.ren h∘Lf.ren f)=cs:=by
   have:=Qbn (l:=cs) (f:=Lf.ren h∘Lf.ren f) (g:=id) fun x hx'=>Lf.Q8 fun l hl=>hx l (vZ.2 ⟨x,hx',hl⟩)
   simpa using this
  rw[this]
theorem asr {l:Nat}(h:l∈ids):backTo ids fr (jf ids l)=l:=by
 unfold backTo;have:=rH h;have hlt:=(Qaz.1 this).1;rw[Qb qb5];simp[List.getD,this]
theorem vU {f:FuncId}{ct:Ct D}{args:List (Sl D)}{vals:List Value}(hS:jd S)(hok:fV P S f ct)(h:Hp S w0 N blk g al w)(hfr:∀n,fr<=n->n < fr+64->¬al n)
  (hargs:∀ids dH,uh blk ids=some dH->(∀l∈jr,l∉ids)->iw S (aW (Nc N blk g ids jr) (kQ (dH.map (Bk.ren (jf ids)))) (gc g ids)) w g args vals)
  (hvl:∀l∈jr,∃u,g l=some u) (hvr:∀l∈jr,(∃d,rwD (blk l)=some d)\/hot (blk l)=false\/l∈args.flatMap Sl.refs) (hout:AX ct blk fr args jr=some out) (hp:lZ out.pre):
  Calls P f vals.toArray w fun e w'=>∃v g',e= .returned v/\More g g'/\Keeps (aW N blk g) w (aW N (lG blk out.blks) g') w'/\Hp S w0 N (lG blk out.blks) g' (fun n=>al n\/(fr<=n/\n < fr+64)) w'/\
   out.val.Rel S (aW N (lG blk out.blks) g') w' g' v:=by
 unfold AX at hout;generalize W_:reach blk 3 (lX [] (args.flatMap Sl.refs))=ids at hout;dsimp only at hout;have hnd:ids.Nodup:=by rw[<-W_];exact CV 3 _ (qj _ _ Qeg)
 split at hout
 ·cases hout
 ·rename_i dH hg;split at hout
  ·rename_i hc;simp only[jY,Qbi,Qck]at hc;obtain⟨⟨c1,c2⟩,c3⟩:=hc;have c1:=rJ c1;have c2:∀bk∈dH,∀l∈bk.refs,l∈ids:=fun bk hbk l hl=>rJ c2 l (vZ.2 ⟨bk,hbk,hl⟩)
   have hv:∀l∈jr,l∉ids:=fun l hl hm=>c3 l hl (gX.2 hm)
   split at hout
   ·rename_i p r post keep hct;split at hout
    ·rename_i hq;simp only[jY]at hq;obtain⟨⟨⟨⟨⟨k1,k2⟩,k3⟩,k4⟩,k5⟩,k6⟩:=hq;have k6:∀i∈keep,i < ids.length/\i∉post.map (·.1):=fun i hi=>by
      have:=MX.1 k6 i hi;simp only[jY,Qbi]at this;refine⟨by simpa[Gf]using this.1,fun hm=> ?_⟩;rw[gX.2 hm]at this;simp at this
     have hlen:(dH.map (Bk.ren (jf ids))).length=ids.length:=by rw[Qbl];exact(pJ hg).1
     have NC:∀i,i∉keep->uO post keep (dH.map (Bk.ren (jf ids))) i=jW post i:=fun i hi=>by
      unfold uO;cases hlk:jW post i with
      | some bk=>rfl
      | none=>
       have:rC i keep=false:=by
        cases hm:rC i keep with
        | false=>rfl
        | true=>exact absurd (gX.1 hm) hi
       simp[this]
     have ak6:∀i,i∈keep->uO post keep (dH.map (Bk.ren (jf ids))) i=(dH.map (Bk.ren (jf ids)))[i]? :=fun i hi=>by
      unfold uO;have:jW post i=none:=by
       cases hlk:jW post i with
       | none=>rfl
       | some bk=>exact absurd (Ik.2 ⟨_,rM hlk,rfl⟩) (k6 i hi).2
      rw[this,gX.2 hi];rfl
     have auL:∀i,i∈post.map (·.1)++keep->(uO post keep (dH.map (Bk.ren (jf ids))) i).isSome=true:=fun i hi=>by
      by_cases hk:i∈keep
      ·rw[ak6 i hk];have:=(k6 i hk).1;rw[<-hlen]at this;rw[Wy this];rfl
      ·rw[NC i hk];rcases tY.1 hi with q | q
       ·exact aaW q
       ·exact absurd q hk
     injection hout with hout
     have hpre:lZ p:=by subst hout;exact hp
     have hl:=h.lend hnd hg c2 hv (jr:=jr);have hrel:=(hargs ids dH hg hv).ren (g':=gc g ids) (f:=jf ids) (fun l hl u hu=>by rw[aaM (c1 l hl)];exact hu);refine(hok.calls _ _ _ w vals _ _ p r post keep hl hrel hct hpre).mono ?_;rintro e w' ⟨v,gc',rfl,hm,hc',hr⟩;have glt:∀l u,g l=some u->¬(fr<=l/\l < fr+64):=fun l u hl hle=>hfr l hle.1 hle.2 (h.al l u hl)
     have blt:∀l bk,blk l=some bk->¬(fr<=l/\l < fr+64):=fun l bk hl=>by obtain⟨u,hu,_⟩:=h.dH l bk hl;exact glt l u hu
     have ayX:∀l∈ids,¬(fr<=l/\l < fr+64):=fun l hl=>by
      obtain⟨bk,hbk,_⟩:=(pJ hg).2 _ l (rH hl);exact blt l bk hbk
     let fz:Bool:=r.mZ || post.any (fun q=>q.2.mZ) || keep.any (fun i=>aoZ (dH.map (Bk.ren (jf ids))) i)
     have inA:∀l x,(l,x)∈((ids.filter fun l=> !rC (jf ids l) keep).map fun l=>(l,(jW post (jf ids l)).map (Bk.ren (backTo ids fr))))->l∈ids/\jf ids l∉keep/\x=(jW post (jf ids l)).map (Bk.ren (backTo ids fr)):=by
      intro l x hx;obtain⟨l',hl',he⟩:=Ik.1 hx;injection he with e1 e2
      subst e1;obtain⟨q1,q2⟩:=Qbx.1 hl';refine⟨q1,fun hm=> ?_,e2.symm⟩;rw[gX.2 hm]at q2;simp at q2
     have inB:∀l x,(l,x)∈((post.filter fun q=> !Nat.blt q.1 ids.length).map fun q=>(backTo ids fr q.1,some (q.2.ren (backTo ids fr))))->∃i bk,(i,bk)∈post/\ids.length<=i/\i < ids.length+64/\l=fr+(i - ids.length)/\x=some (bk.ren (backTo ids fr)):=by
      intro l x hx;obtain⟨⟨i,bk⟩,hq,he⟩:=Ik.1 hx;obtain⟨hmem,hge⟩:=Qbx.1 hq;injection he with e1 e2
      have hge:¬i < ids.length:=fun hlt=>by
       rw[show Nat.blt i ids.length=true from Gf▸hlt]at hge;simp at hge
      refine⟨i,bk,hmem,by omega,Ho k1 i bk hmem,?_,e2.symm⟩;rw[<-e1];simp only[backTo];rw[qC (by simpa[Gf]using hge)]
     have inC:∀l x,(l,x)∈(if fz then jr.filterMap (jl blk)else([]:List (Nat×Option (Bk D))))->fz=true/\l∈jr/\∃d,rwD (blk l)=some d/\x=some (.wE d):=by
      intro l x hx;by_cases hz:fz=true
      ·rw[Qb hz]at hx;obtain⟨l',hl',he⟩:=Qdd.1 hx;unfold jl at he;split at he
       ·rename_i d hrow;injection he with he
        injection he with e1 e2
        subst e1;exact⟨hz,hl',d,hrow,e2.symm⟩
       ·cases he
      ·rw[qC hz]at hx;simp at hx
     have ak1:out.blks=((ids.filter fun l=> !rC (jf ids l) keep).map fun l=>(l,(jW post (jf ids l)).map (Bk.ren (backTo ids fr))))++(post.filter fun q=> !Nat.blt q.1 ids.length).map (fun q=>(backTo ids fr q.1,some (q.2.ren (backTo ids fr))))++
      (if fz then jr.filterMap (jl blk)else[]):=by
      rw[<-hout]
     have hall:∀l x,(l,x)∈out.blks->(l∈ids/\jf ids l∉keep/\x=(jW post (jf ids l)).map (Bk.ren (backTo ids fr)))\/(∃i bk,(i,bk)∈post/\ids.length<=i/\i < ids.length+64/\l=fr+(i - ids.length)/\x=some (bk.ren (backTo ids fr)))\/(fz=true/\l∈jr/\∃d,rwD (blk l)=some d/\x=some (.wE d)):=by
      intro l x hx;rw[ak1]at hx;rcases tY.1 hx with hx | hx
      ·rcases tY.1 hx with hx | hx
       ·exact .inl (inA l x hx)
       ·exact .inr (.inl (inB l x hx))
      ·exact .inr (.inr (inC l x hx))
     have hB:Back blk (lG blk out.blks) (uO post keep (dH.map (Bk.ren (jf ids)))) ids jr fr fz:=by
      refine⟨fun l hl=> ?_,fun j hj=> ?_,fun l hl hz=> ?_,fun l h1 h2 h3=> ?_⟩
      ·by_cases hk:jf ids l∈keep
       ·obtain⟨bk,q1,q2⟩:=(pJ hg).2 _ l (rH hl);rw[ak6 _ hk,Qbb,q2];simp only[GZ];rw[Bk.Q8 fun r hr=>asr (c2 bk (Qbo q2) r hr),<-q1];refine wP fun x hx=> ?_;rcases hall l x hx with⟨_,q,_⟩ | ⟨i,bk,q1,q2,q3,q4,_⟩ | ⟨_,q,_⟩
        ·exact q hk
        ·exact absurd (show fr<=l/\l < fr+64 by omega) (ayX l hl)
        ·exact absurd hl (hv l q)
       rw[NC _ hk];refine Q5 (by
        rw[ak1];refine Qb4 _ (Qb4 _ (Ik.2 ⟨l,Qbx.2 ⟨hl,?_⟩,rfl⟩));cases hm:rC (jf ids l) keep with
        | false=>rfl
        | true=>exact absurd (gX.1 hm) hk) fun x hx=> ?_
       rcases hall l x hx with⟨_,_,q⟩ | ⟨i,bk,q1,q2,q3,q4,_⟩ | ⟨_,q,_⟩
       ·exact q
       ·exact absurd (show fr<=l/\l < fr+64 by omega) (ayX l hl)
       ·exact absurd hl (hv l q)
      ·rw[NC _ fun hk=>by have:=(k6 _ hk).1;omega];cases hlk:jW post (ids.length+j)with
       | none=>
        rw[wP]
        ·cases hb:blk (fr+j)with
         | none=>rfl
         | some bk=>exact absurd ⟨Nat.le_add_right fr j,by omega⟩ (blt _ bk hb)
        ·intro x hx;rcases hall _ x hx with⟨q,_⟩ | ⟨i,bk,q1,q2,q3,q4,_⟩ | ⟨_,_,d,q,_⟩
         ·exact ayX _ q au
         ·have:i=ids.length+j:=by omega
          subst this;rw[VD k2 q1]at hlk;cases hlk
         ·obtain⟨bkr,hbr,_⟩:=jU (IY q);exact blt _ _ hbr au
       | some bk=>
        refine Q5 (by
         rw[ak1];refine Qb4 _ (Qcb _ (Ik.2 ⟨(ids.length+j,bk),Qbx.2 ⟨rM hlk,by rw[aAY (Nat.le_add_right _ _)];rfl⟩,?_⟩));simp only[backTo,GZ];rw[qC (by simp[Gf])];congr 1;omega) fun x hx=> ?_
        rcases hall _ x hx with⟨q,_⟩ | ⟨i,bk',q1,q2,q3,q4,q5⟩ | ⟨_,_,d,q,_⟩
        ·exact absurd au (ayX _ q)
        ·have:i=ids.length+j:=by omega
         subst this;rw[VD k2 q1]at hlk;injection hlk with hlk
         rw[q5,hlk];rfl
        ·obtain⟨bkr,hbr,_⟩:=jU (IY q);exact absurd au (blt _ _ hbr)
      ·by_cases hrow:∃d,rwD (blk l)=some d
       ·obtain⟨d,hrow⟩:=hrow;obtain⟨bkr,hbr,_⟩:=jU (IY hrow);refine .inl ⟨d,hrow,Q5 (by
         rw[ak1,Qb hz];exact Qcb _ (Qdd.2 ⟨l,hl,by unfold jl;rw[hrow]⟩)) fun x hx=> ?_⟩
        rcases hall _ x hx with⟨q,_⟩ | ⟨i,bk',q1,q2,q3,q4,q5⟩ | ⟨_,_,d',q,q'⟩
        ·exact absurd q (hv l hl)
        ·exact absurd au (blt _ _ hbr)
        ·rw[hrow]at q;injection q with q
         rw[q',q]
       ·have hnot:hot (blk l)=false:=by
         rcases hvr l hl with q | q | q
         ·exact absurd q hrow
         ·exact q
         ·exact absurd (c1 l q) (hv l hl)
        by_cases hfl:fr<=l/\l < fr+64
        ·obtain⟨u,hu⟩:=hvl l hl;exact absurd hfl (glt l u hu)
        ·refine .inr ⟨hnot,wP fun x hx=> ?_⟩;rcases hall _ x hx with⟨q,_⟩ | ⟨i,bk',q1,q2,q3,q4,q5⟩ | ⟨_,_,d',q,q'⟩
         ·exact hv l hl q
         ·exact hfl au
         ·exact hrow ⟨d',q⟩
      ·refine wP fun x hx=> ?_;rcases hall _ x hx with⟨q,_⟩ | ⟨i,bk',q1,q2,q3,q4,q5⟩ | ⟨hz,q,_⟩
       ·exact h1 q
       ·exact h3 au
       ·exact h2 hz q
     obtain⟨g1,g2,g3,g4⟩:=h.back hS hfr hnd hg hv hm hc' hB (fun i hi=>by
       by_cases hk:i∈keep
       ·have:=(k6 i hk).1;omega
       rw[NC i hk]at hi;obtain⟨bk,hbk⟩:=Qb2.1 hi;exact Ho k1 i bk (rM hbk))
      (fun i bk hbk l hl=>by
       by_cases hk:i∈keep
       ·rw[ak6 i hk]at hbk;exact auL l (rJ k5 l (vZ.2 ⟨i,hk,by unfold arX;rw[hbk];exact hl⟩))
       ·rw[NC i hk]at hbk;exact auL l (rJ k3 l (vZ.2 ⟨(i,bk),rM hbk,hl⟩)))
      (fun i bk hbk hd=>by
       simp only[fz,Qbt,Qcr];by_cases hk:i∈keep
       ·rw[ak6 i hk]at hbk;exact .inr ⟨i,hk,by unfold aoZ;rw[hbk];exact hd⟩
       ·rw[NC i hk]at hbk;exact .inl (.inr ⟨(i,bk),rM hbk,hd⟩))
     refine⟨v,_,rfl,A8,g2,g1,?_⟩;have:out.val=r.ren (backTo ids fr):=by rw[<-hout]
     rw[this];exact hr.ren (fun l hl u hu=>g4 l (auL l (rJ k4 l hl)) u hu) (fun hd=>g3 (by simp[fz,hd]))
    ·cases hout
   ·cases hout
  ·cases hout
end
end Go.Vc

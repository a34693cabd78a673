/- Own engine: Vdr, Vds, Vdg, Vdi, Vdj. -/
import Derived.Test.YtmadgoehmjmlmaaGreatDoorEng2
import Derived.Lib.Overlaps
import Derived.Lib.AppendZerosOnto
set_option linter.unusedVariables false
set_option linter.unusedSimpArgs false
namespace Go.Vc
open Go.RowKit
section
variable {D:Type}{P:Program}{S:Sh D}{T:TypeId->Option Ty}{M N:Nat->Prop}{w w':World}{w0:Bs}{g:Nat->Option Value}{blk:Nat->Option (Bk D)}{al:Nat->Prop}
 {a:Act} {o:Oper} {K:Act->World->Prop} {Q:Exit->Act->World->Prop} {slot:Nat->Sl D} {out:Out D} {fr:Nat}
theorem GL (hS:jf S){d d':D}{av:Option Addr}{n cap l h:Nat}(hd:dA S M w d (.slice av n cap))(hs:S.sub d l h=some d')(h1:l<=h)(h2:h<=S.len d):dA S M w d' (sliced av l h cap (S.size d)):=by
 obtain⟨e1,e2,e3⟩:=hS.sub _ _ _ _ hs h1 h2;intro w' hw;have hr:=hd w' hw;generalize hv:Value.slice av n cap=v at hr;cases hr with
 | mp d m v hm hl hz h=>rcases h.2 with⟨e,_⟩ | ⟨_,_,_,e,_⟩<;>(rw[<-hv]at e;cases e)
 | mk d hno a' cap' U hcap hlen hcell hpl hdat=>
  injection hv with i1 i2 i3
  subst i1 i3;show Be S w' d' (.slice (if cap=l then av else av.map (·.add (l*S.size d))) (h - l) (cap - l))
  rw[<-e2];refine Be.mk d' (hS.Ip _ _ _ _ hs).2 _ (cap - l) (fun i j=>U (l+i) j) au au (fun i j hi hj=> ?_) (fun i j hi hj=> ?_) (fun i j x hi hj hx=> ?_)
  ·rw[e1]at hj;obtain⟨ad,had,hc⟩:=hcell (l+i) j au hj;have hne:¬cap=l:=by omega
   refine⟨ad.add (l*S.size d),by rw[lL hne,had];rfl,?_⟩;rw[add_add',e1,<-hc,QO];congr 2;omega
  ·rw[e1]at hj;rw[e3 i j au];exact hpl (l+i) j au hj
  ·rw[e1]at hj;rw[e3 i j au]at hx;exact hdat (l+i) j x au hj hx
theorem QG {n:Nat}{lo:Option Operand}{l:Int}(hr:∀x:Operand,(aG slot x).Rel S M w g (a.eval x))(h:bnd n (lo.map (aG slot))=some l):(lo=none/\l=n)\/∃x k,lo=some x/\a.eval x= .int k l:=by
 cases lo with
 | none=>simp only[Qcj,bnd,Nb]at h;exact .inl ⟨rfl,h.symm⟩
 | some x=>
  simp only[IR]at h;unfold bnd at h;split at h
  ·rename_i he;cases he
  ·rename_i k i he;injection he with he
   injection h with h
   subst h;have:=hr x;rw[he]at this;exact .inr ⟨x,k,rfl,this⟩
  ·cases h
theorem akY (hS:jf S){d d':D}{av:Option Addr}{n cap h:Nat}(hd:dA S M w d (.slice av n cap))(hs:S.sub d 0 h=some d')(h2:h<=S.len d)(hl:S.len d'=h - 0):∃a,sliced av 0 h h (S.size d)= .slice a (S.len d') (S.len d')/\dA S M w d' (sliced av 0 h h (S.size d)):=by
 obtain⟨e1,e2,e3⟩:=hS.sub _ _ _ _ hs (vg _) h2;refine⟨if h=0 then av else av.map (·.add (0*S.size d)),by rw[hl];rfl,?_⟩;intro w' hw;have hr:=hd w' hw;generalize hv:Value.slice av n cap=v at hr;cases hr with
 | mp d m v hm hl hz h=>rcases h.2 with⟨e,_⟩ | ⟨_,_,_,e,_⟩<;>(rw[<-hv]at e;cases e)
 | mk d hno a' cap' U hcap hlen hcell hpl hdat=>
  injection hv with i1 i2 i3
  subst i1 i3;show Be S w' d' (.slice (if h=0 then av else av.map (·.add (0*S.size d))) (h - 0) (h - 0))
  rw[<-hl];refine Be.mk d' (hS.Ip _ _ _ _ hs).2 _ (S.len d') (fun i j=>U (0+i) j) (l9 _) au (fun i j hi hj=> ?_) (fun i j hi hj=> ?_) (fun i j x hi hj hx=> ?_)
  ·rw[e1]at hj;obtain⟨ad,had,hc⟩:=hcell (0+i) j au hj;have hne:¬h=0:=by omega
   refine⟨ad.add (0*S.size d),by rw[lL hne,had];rfl,?_⟩;rw[add_add',e1,<-hc,QO];congr 2;omega
  ·rw[e1]at hj;rw[e3 i j au];exact hpl (0+i) j au hj
  ·rw[e1]at hj;rw[e3 i j au]at hx;exact hdat (0+i) j x au hj hx
theorem LD {t e:TypeId}{x:Operand}{lo hi:Option Operand}{sz s n cap:Nat}{av:Option Addr}{l hh:Int}(ho:o.op= .slice t x lo hi none)(hsl:P.underlying t=some (.slice e))(hsz:(sizeOf e).run P w= .ok sz w)(hv:a.eval x= .slice av n cap)(hcap:n<=cap)
  (hr:∀x:Operand,(aG slot x).Rel S (aT N blk g) w g (a.eval x)) (hl:bnd 0 (lo.map (aG slot))=some l) (hhi:bnd n (hi.map (aG slot))=some hh) (h1:sz=s) (p1:0<=l) (p2:l<=hh) (p3:hh<=n):
  (execOp a.eval o).run P w= .ok (.value (sliced av l.toNat hh.toNat cap s)) w:=by
 have agc:P.elem t=e:=by simp[Program.elem,hsl]
 have Bg:P.underlying t=some (.slice (P.elem t)):=by rw[agc];exact hsl
 have e1:(execOp a.eval o).run P w=((Instr.slice t (.slice av (n) cap) (lo.map a.eval) (hi.map a.eval) none).run P w).andThen fun v w=> .ok (.value v) w:=by
  simp[execOp,ho,hv,run_sliceAt_slice w t _ _ _ _ Bg]
 rw[e1];rcases QG hr hl with⟨rfl,hl0⟩ | ⟨xl,kl,rfl,hxl⟩<;>rcases QG hr hhi with⟨rfl,hh0⟩ | ⟨xh,kh,rfl,hxh⟩
 ·simp only[Qcj];rw[run_slice_all w t _ _ _ Bg,agc,hsz];have:l.toNat=0:=by omega
  have h2:hh.toNat=n:=by omega
  rw[this,h2,<-h1];rfl
 ·simp only[Qcj,IR,hxh];rw[run_slice_h w t _ _ _ Bg kh hh au au,agc,hsz];have:l.toNat=0:=by omega
  rw[this,<-h1];rfl
 ·simp only[Qcj,IR,hxl];rw[run_slice_l w t _ _ _ Bg kl l au au,agc,hsz];have h2:hh.toNat=n:=by omega
  rw[h2,<-h1];rfl
 ·simp only[IR,hxl,hxh];rw[run_slice_lh w t _ _ _ Bg kl kh l hh au au au,agc,hsz,<-h1];rfl
theorem ae2 {t:TypeId}{x:Operand}{lo hi:Option Operand}(hS:jf S)(ho:o.op= .slice t x lo hi none)(hTy:∀t ty,T t=some ty->fP P t ty)(h:Hp S w0 N blk g al w)
  (hr:∀x:Operand,(aG slot x).Rel S (aT N blk g) w g (a.eval x)) (hout:OT T S blk t (aG slot x) (lo.map (aG slot)) (hi.map (aG slot))=some out) (hp:mF out.pre) (hK:Post S w0 N blk g al w fr out o.dst a K):o.wp P a w K Q:=by
 have hx:=hr x;unfold OT at hout;split at hout
 ·cases hout
 ·rename_i ty hty;split at hout
  ·cases hout
  ·rename_i l hl;split at hout
   ·rename_i s hex;rw[hex]at hx;simp only[Sl.Rel,Sv.Rel,Lf.Rel]at hx;obtain⟨hx,hxl⟩:=hx;split at hout
    ·rename_i hk;obtain⟨d,hd,hkd⟩:=nI (hTy _ _ hty);have hk:ty.kind=3:=by simpa using hk
     rw[hk]at hkd;have hd:P.underlying t=some .string:=by cases d<;>simp_all [kindOf]
     split at hout
     ·rename_i hh hhi;injection hout with hout
      subst hout;obtain⟨p1,p2,p3⟩:=hp;have hsz:(ByteArray.mk s.toArray).size=s.length:=by show s.toArray.size=_;simp
      have aJX:(ByteArray.mk s.toArray).extract l.toNat hh.toNat=⟨((s.take hh.toNat).drop l.toNat).toArray⟩:=by
       apply ByteArray.ext;rw[ByteArray.data_extract];apply JD.1;simp[Qdt,List.drop_take]
      refine bf (v:= .string ⟨((s.take hh.toNat).drop l.toNat).toArray⟩) ?_ h hK rfl ⟨rfl,by rw[Nk,uw];omega⟩;rw[<-aJX];have e1:(execOp a.eval o).run P w=((Instr.slice t (.string ⟨s.toArray⟩) (lo.map a.eval) (hi.map a.eval) none).run P w).andThen fun v w=> .ok (.value v) w:=by
       simp[execOp,ho,hx,run_sliceAt_string w t _ _ _ _ hd]
      rw[e1];rcases QG hr hl with⟨rfl,hl0⟩ | ⟨xl,kl,rfl,hxl⟩<;>rcases QG hr hhi with⟨rfl,hh0⟩ | ⟨xh,kh,rfl,hxh⟩
      ·simp only[Qcj];rw[run_slice_string_all w t _ hd];have:l.toNat=0:=by omega
       have h2:hh.toNat=(ByteArray.mk s.toArray).size:=by omega
       rw[this,h2];rfl
      ·simp only[Qcj,IR,hxh];rw[run_slice_string_h w t _ hd kh hh au au];have:l.toNat=0:=by omega
       rw[this];rfl
      ·simp only[Qcj,IR,hxl];rw[run_slice_string_l w t _ hd kl l au au];have h2:hh.toNat=(ByteArray.mk s.toArray).size:=by omega
       rw[h2];rfl
      ·simp only[IR,hxl,hxh];rw[run_slice_string w t _ kl kh l hh hd au au au];rfl
     ·cases hout
    ·cases hout
   ·rename_i d hex;rw[hex]at hx;split at hout
    ·cases hout
    ·rename_i e hel;split at hout
     ·cases hout
     ·rename_i te hte;have hsl:=kR (hTy _ _ hty) hel;have hsz:=kz (hTy _ _ hte) w;split at hout
      ·rename_i hc;simp only[jR]at hc;have h1:=Qa hc.1;split at hout
       ·rename_i hh hhi;split at hout
        ·rename_i d' hd';injection hout with hout
         subst hout;obtain⟨p1,p2,p3⟩:=hp;have hx:dA S (aT N blk g) w d (a.eval x):=hx;obtain⟨av,cap,hv,hcap⟩:=dA.slice' hx (hS.Ip _ _ _ _ hd').1;rw[hv]at hx;have hres:=GL hS hx hd' au au;refine bf (v:=sliced av l.toNat hh.toNat cap (S.size d)) ?_ h hK rfl hres;exact LD ho hsl hsz hv hcap hr hl hhi h1 p1 p2 p3
        ·cases hout
       ·cases hout
      ·cases hout
   ·rename_i q hex;rw[hex]at hx;have hx:g q=some (a.eval x):=hx;split at hout
    ·cases hout
    ·rename_i e hel;split at hout
     ·cases hout
     ·rename_i te hte;have hsl:=kR (hTy _ _ hty) hel;have hsz:=kz (hTy _ _ hte) w;split at hout
      ·rename_i e' d hb;split at hout
       ·rename_i hh hhi;injection hout with hout
        subst hout;obtain⟨p1,p2,p3⟩:=hp;obtain⟨v,hv',_,xs,⟨_,hown⟩,_⟩:=h.dE q _ hb;rw[hx]at hv';injection hv' with hv'
        rcases hown with⟨h0,hn0⟩ | ⟨b,cap',cur,hvv,_,_,hnc,_⟩
        ·exact bf (v:=_) (LD (n:=S.len d) (cap:=0) ho hsl hsz (by rw[hv',h0,hn0]) au hr hl hhi rfl p1 p2 p3) h hK rfl ⟨none,S.len d,0,by rw[hx,hv',h0,hn0],rfl,by omega,by omega,rfl⟩
        ·exact bf (v:=_) (LD (n:=S.len d) ho hsl hsz (by rw[hv',hvv]) hnc hr hl hhi rfl p1 p2 p3) h hK rfl ⟨_,S.len d,_,by rw[hx,hv',hvv],rfl,by omega,by omega,rfl⟩
       ·cases hout
      ·cases hout
   ·cases hout
theorem Hp.ajf (h:Hp S w0 N blk g al w){l:Nat}{bk bk':Bk D}{v:Value}(hl:blk l=some bk)(hh:hot (some bk)=true)(hh':hot (some bk')=true)(hg:g l=some v)
  (hok:yL S (aT N blk g) w g w0 bk' v):Hp S w0 N (upd blk l (some bk')) g al w/\Keeps (aT N blk g) w (aT N (upd blk l (some bk')) g) w:=by
 have hsome:∀n,hot (upd blk l (some bk') n)=hot (blk n):=by
  intro n;by_cases he:n=l
  ·subst he;simp[upd_same,hl,hh,hh']
  ·rw[bP _ _ _ _ he]
 have hM:aT N (upd blk l (some bk')) g=aT N blk g:=by
  funext c;simp only[aT,hsome]
 refine⟨⟨h.below,h.hN,?_,?_,h.al,h.refs,by rw[hM];exact h.gl⟩,hM▸Keeps.refl _ _⟩
 ·intro n bkn hn;rw[hM];by_cases he:n=l
  ·subst he;rw[upd_same]at hn;injection hn with hn
   subst hn;exact⟨v,hg,hok⟩
  ·rw[bP _ _ _ _ he]at hn;exact h.dE n bkn hn
 ·intro a c va vc d ha hc;rw[hsome]at ha hc;exact h.sep a c va vc d ha hc
theorem agW {v:Value}(h:v.oneCell'=true):one' v=true:=by cases v<;>simp_all [one',Value.oneCell']
theorem ahS {c:Call}{x y:Operand}(hS:jf S)(ho:o.op= .call c)(hc:c.callee= .builtin .copy)(hx':c.args.toList=[x,y])(hTy:∀t ty,T t=some ty->fP P t ty)(h:Hp S w0 N blk g al w)
  (hx:(aG slot x).Rel S (aT N blk g) w g (a.eval x)) (hy:(aG slot y).Rel S (aT N blk g) w g (a.eval y)) (hout:Y2 T S blk c.argTypes (aG slot x) (aG slot y)=some out) (hK:Post S w0 N blk g al w fr out o.dst a K):o.wp P a w K Q:=by
 unfold Y2 at hout;split at hout
 ·rename_i t t' hts;split at hout
  ·rename_i htt;have htt:=Qa htt;subst htt;split at hout
   ·cases hout
   ·rename_i ty hty;split at hout
    ·cases hout
    ·rename_i e hel;split at hout
     ·cases hout
     ·rename_i te hte;have hsl:=kR (hTy _ _ hty) hel;have hsz:=kz (hTy _ _ hte) w;split at hout
      ·rename_i l d2 hex DN;rw[hex]at hx;rw[DN]at hy;have hx:g l=some (a.eval x):=hx;have hy:dA S (aT N blk g) w d2 (a.eval y):=hy;split at hout
       ·rename_i e' d1 hb;split at hout
        ·rename_i hcc;simp only[jR]at hcc;obtain⟨c1,c2,c3,c4⟩:=hcc;have c1:=Qa c1;have c2:=Qa c2;have c3:=Qa c3;have c4:0 < te.size:=by simpa[Hu]using c4
         subst c1;split at hout
         ·rename_i dp dq hdp hdq;split at hout
          ·rename_i d hd;injection hout with hout
           subst hout;generalize hm:min (S.len d2) (S.len d1)=m at*;have hm1:m<=S.len d1:=by omega
           have hm2:m<=S.len d2:=by omega
           obtain⟨p1,p2,p3⟩:=hS.sub _ _ _ _ hdp au hm2;obtain⟨q1,q2,q3⟩:=hS.sub _ _ _ _ hdq hm1 (l9 _);obtain⟨k1,k2,k3,k4,k5⟩:=hS.cat _ _ _ hd;have hsd:S.size d=te.size:=by omega
           have hld:S.len d=S.len d1:=by omega
           obtain⟨av,cap,news,hv2,hnl,hnc,hnz,hone,hnr⟩:=MC (g:=g) hS hy au;obtain⟨v,hv',DF,xs,⟨hxl,hown⟩,hcell⟩:=h.dE l _ hb;rw[hx]at hv';injection hv' with hv'
           have hload:(Builtin.firstCells te.size m (a.eval y)).run P w= .ok (news.take (m*te.size)).toArray w:=by
            rw[hv2];cases av with
            | none=>
             have h0:=hnz rfl;have:m=0:=by omega
             subst this;simp[Builtin.firstCells]
            | some ad=>
             have hlen:(news.take (m*te.size)).length=m*te.size:=by
              rw[uw,hnl,<-c3];have:=Om te.size hm2;omega
             have:=run_loadCells_list (P:=P) w ad (news.take (m*te.size)) (fun j u hj=>hnc ad rfl j u (by
              rw[Nj]at hj;split at hj
              ·exact hj
              ·cases hj))
             rw[hlen]at this;exact this
           have avN:(Builtin.lenOf (a.eval y)).run P w= .ok (S.len d2) w:=by rw[hv2];simp[Builtin.lenOf]
           have hargs:c.args= #[x,y]:=by rw[<-JD];exact hx'
           have hat:c.argTypes= #[t,t]:=by rw[<-JD];exact hts
           rcases hown with⟨h0,hn0⟩ | ⟨b,cap',cur,hvv,_,hh,hnc',hcm,hcs,htake⟩
           ·
            have hm0:m=0:=by omega
            subst hm0;have hdst:a.eval x= .slice none 0 0:=by rw[hv',h0]
            have hrun':(execOp a.eval o).run P w= .ok (.value (goInt 0)) w:=by
             simp[execOp,ho,resolve,hc,invoke,builtin,hargs,hat,Builtin.copy_,run_underlying hsl,hdst,avN,hsz,hload]
            obtain⟨g1,g2⟩:=h.ajf (bk':= .row e d) hb rfl rfl hx (by
             rw[hv'];refine⟨⟨DF.1,by rw[hld];exact DF.2.1,by first | exact hS.aoG au | (apply hS.Xd;assumption)⟩,[],⟨by simp[hld,hn0], .inl ⟨h0,by omega⟩⟩,fun i j hi hj=>by omega⟩)
            exact kU hrun' (hK _ _ _ (More.refl _) g2 (g1.weaken fun _ h=> .inl h) rfl)
           ·have hdst:a.eval x= .slice (some ⟨b,0,none⟩) (S.len d1) cap':=by rw[hv',hvv]
            have hlt:(news.take (m*te.size)).length=m*te.size:=by
             rw[uw,hnl,<-c3];have:=Om te.size hm2;omega
            have hms:m*te.size<=S.len d1*te.size:=Om _ hm1;have hcl:S.len d1*te.size<=cur.toList.length:=by rw[Qj,hcs,<-c2];exact Om _ hnc'
            have hh':w.heap[b]? =some (.cells (cur.toList).toArray e (0,0)):=by simpa using hh
            obtain⟨w',hrun,hb',hn,hs,q1',q2',q3'⟩:=kJ (P:=P) b e (news.take (m*te.size)) w cur.toList 0 0 hh' au (by
             rw[Nv];intro u hu;exact agW (hone u (List.mem_of_mem_take hu)))
            have hrun':(execOp a.eval o).run P w= .ok (.value (goInt m)) w':=by
             have hmin:Nat.min (S.len d2) (S.len d1)=m:=hm;simp[execOp,ho,resolve,hc,invoke,builtin,hargs,hat,Builtin.copy_,run_underlying hsl,hdst,avN,hmin,hsz,hload,hrun]
            have aIO:∀k,k < S.len d1*te.size->cur.toList[k]? =xs[k]? :=fun k hk=>by rw[<-htake,Nj,mi (by rw[<-c2];exact hk)]
            simp only[Qm,DU,Qer,Qci,hlt]at hb';obtain⟨g1,g2⟩:=h.write (bk':= .row e d) hb rfl rfl hx (by rw[hdst];rfl) q1' q2' q3' hs hn (fun hk=>by
             rw[hv'];refine⟨⟨DF.1,by rw[hld];exact DF.2.1,by first | exact hS.aoG au | (apply hS.Xd;assumption)⟩,(news.take (m*te.size)++cur.toList.drop (m*te.size)).take (S.len d1*te.size),⟨?_, .inr ⟨b,cap',(news.take (m*te.size)++cur.toList.drop (m*te.size)).toArray,by rw[hvv,hld],vg _,hb',by omega,hcm,?_,by rw[hld,hsd]⟩⟩,fun i j hi hj=> ?_⟩
             ·rw[hld,hsd];rw[uw,kT,hlt,Nk];omega
             ·rw[Qcq,kT,hlt,Nk,hsd,c2,<-hcs,<-c2];have:=Qj (xs:=cur);omega
             ·rw[hsd]at hj⊢;rw[hld]at hi;have hlt':=oL hi hj;rw[Nj,mi hlt'];have hdt:=hS.data d i j au au;by_cases him:i < m
              ·obtain⟨u,hu,hru⟩:=hnr i j au au;have hlm:=oL him hj;refine⟨u,?_,hdt,?_⟩
               ·rw[Qbc au,Nj,mi hlm,c3];exact hu
               ·have e1:S.cell d i j=S.cell d2 i j:=by rw[k4 i j au,p3 i j au,DU]
                rw[e1];exact hru.keep hk (More.refl _)
              ·obtain⟨u,hu,_,hru⟩:=hcell i j hi au;have hge:m*te.size<=i*te.size:=Om _ au;refine⟨u,?_,hdt,?_⟩
               ·rw[Qba au,hlt,Qbp,show m*te.size+(i*te.size+j - m*te.size)=i*te.size+j by omega,aIO _ hlt',c2];exact hu
               ·have e1:S.cell d i j=S.cell d1 i j:=by
                 have e2:=k5 (i - m) j au;rw[show S.len dp+(i - m)=i by omega]at e2;rw[e2,q3 (i - m) j au,show m+(i - m)=i by omega]
                rw[e1];exact hru.keep hk (More.refl _))
            exact kU hrun' (hK _ _ _ (More.refl _) g2 (g1.weaken fun _ h=> .inl h) rfl)
          ·cases hout
         ·cases hout
        ·cases hout
       ·cases hout
      ·cases hout
  ·cases hout
 ·cases hout
end
end Go.Vc
namespace Go.Vc
open Go.RowKit
section
variable {P:Program}{w w':World}
theorem ve {t e:TypeId}{s b o sLen dLen:Nat}{ad:Addr}{cs cur:List Value}{e':TypeId}(hsl:P.underlying t=some (.slice e))(hsz:∀w,(sizeOf e).run P w= .ok s w)
  (hb:w.heap[b]? =some (.cells cur.toArray e' (0,0))) (hn:cs.length=Nat.min sLen dLen*s) (hsrc:∀j u,cs[j]? =some u->w.cell? (ad.add j)=some u) (hfit:o+cs.length<=cur.length) (h1:cs.all one'=true):
  ∃w',(∀ty dc sc,(Builtin.copy_ #[t,t] ty #[.slice (some ⟨b,o,none⟩) dLen dc, .slice (some ad) sLen sc]).run P w= .ok (goInt (Nat.min sLen dLen)) w')/\
   w'.heap[b]? =some (.cells (cur.take o++(cs++cur.drop (o+cs.length))).toArray e' (0,0))/\(∀n,n≠b->w'.heap[n]? =w.heap[n]?)/\w'.heap.size=w.heap.size/\w'.os=w.os/\w'.tape=w.tape/\w'.output=w.output:=by
 obtain⟨w',hrun,hb',hne,hs,q1,q2,q3⟩:=kJ (P:=P) b e' cs w cur o 0 hb au h1;simp only[Qm]at hb';refine⟨w',fun ty dc sc=> ?_,hb',hne,hs,q1,q2,q3⟩;have hl:=run_loadCells_list (P:=P) w ad cs hsrc;rw[hn]at hl;simp[Builtin.copy_,run_underlying hsl,Builtin.lenOf,Builtin.firstCells,hsz,hl,hrun]
structure He (P:Program)(f t ti ov s:Nat):Prop where
 shift:∀(b n c i m vb vc:Nat) (w w1 w2:World),i < n->0 < m->n+m<=c->c<=9223372036854775807->
  (∀lb cb x,(callFunc ov #[.slice (some ⟨vb,0,none⟩) m vc, .slice (some ⟨b,x,none⟩) lb cb]).run P w= .ok (.value (.bool false)) w)->
  (∀ty dc sc,(Builtin.copy_ #[t,t] ty #[.slice (some ⟨b,(i+m)*s,none⟩) (n+m - (i+m)) dc, .slice (some ⟨b,i*s,none⟩) (n+m - i) sc]).run P w.drew= .ok (goInt (n - i:Nat)) w1)->
  (∀ty dc,(Builtin.copy_ #[t,t] ty #[.slice (some ⟨b,i*s,none⟩) (n+m - i) dc, .slice (some ⟨vb,0,none⟩) m vc]).run P w1= .ok (goInt m) w2)->
  Calls P f #[.slice (some ⟨b,0,none⟩) n c, .int .i64 i, .slice (some ⟨vb,0,none⟩) m vc] w fun e w'=>e= .returned (.slice (some ⟨b,0,none⟩) (n+m) c)/\w'=w2
 grow:∀(b n c i m h cc vb vc:Nat) (w w1 w2 w3:World),i < n->0 < m->n<=c->c < n+m->n+m<=cc->n+m<=9223372036854775807->
  (∀ty,(Builtin.append_ #[t,ti] ty #[.slice (some ⟨b,0,none⟩) i c, .int .i64 ((n:Int)+m - i)]).run P w= .ok (.slice (some ⟨h,0,none⟩) (n+m) cc) w1)->
  (∀ty dc,(Builtin.copy_ #[t,t] ty #[.slice (some ⟨h,i*s,none⟩) (n+m - i) dc, .slice (some ⟨vb,0,none⟩) m vc]).run P w1= .ok (goInt m) w2)->
  (∀ty dc sc,(Builtin.copy_ #[t,t] ty #[.slice (some ⟨h,(i+m)*s,none⟩) (n+m - (i+m)) dc, .slice (some ⟨b,i*s,none⟩) (n - i) sc]).run P w2.drew= .ok (goInt (n - i:Nat)) w3)->
  Calls P f #[.slice (some ⟨b,0,none⟩) n c, .int .i64 i, .slice (some ⟨vb,0,none⟩) m vc] w fun e w'=>e= .returned (.slice (some ⟨h,0,none⟩) (n+m) cc)/\w'=w3
 atEnd:∀(a a2:Option Addr) (n c m c2:Nat) (v':Value) (w w':World),0 < m->n<=c->n<=9223372036854775807->
  (∀ty,(Builtin.append_ #[t,t] ty #[.slice a n c, .slice a2 m c2]).run P w= .ok v' w')->
  Calls P f #[.slice a n c, .int .i64 n, .slice a2 m c2] w fun e w1=>e= .returned v'/\w1=w'
theorem adM {cl xs ys:List Value}{n m c i s:Nat}(hi:i < n)(hc:n+m<=c)(hcl:cl.length=c*s)(hx:cl.take (n*s)=xs)(hy:ys.length=m*s):
  ((cl.drop (i*s)).take ((n - i)*s))=xs.drop (i*s)/\(xs.drop (i*s)).length=(n - i)*s/\
  let cl1:=cl.take ((i+m)*s)++(xs.drop (i*s)++cl.drop ((i+m)*s+(n - i)*s))
  let cl2:=cl1.take (i*s)++(ys++cl1.drop (i*s+m*s))
  cl1.length=c*s/\cl2.length=c*s/\cl2.take ((n+m)*s)=xs.take (i*s)++(ys++xs.drop (i*s)):=by
 have m1:i*s<=n*s:=Om _ au;have m2:(n+m)*s<=c*s:=Om _ hc;have m3:(n+m)*s=n*s+m*s:=QO ..;have m4:(i+m)*s=i*s+m*s:=QO ..;have m5:(n - i)*s=n*s - i*s:=Qew ..;have hxl:xs.length=n*s:=by rw[<-hx,uw];omega
 have e1:(cl.drop (i*s)).take ((n - i)*s)=xs.drop (i*s):=by rw[<-hx,List.drop_take,m5]
 have e2:(xs.drop (i*s)).length=(n - i)*s:=by rw[Nk,hxl,m5]
 refine⟨e1,e2,?_⟩;intro cl1 cl2;have l1:cl1.length=c*s:=by
  simp only[cl1,kT,uw,Nk,e2]at*;omega
 have t1:cl1.take (i*s)=xs.take (i*s):=by
  simp only[cl1];rw[Qbv qa9,Qda,Qcv au,<-hx,Qda,Qcv au]
 have d1:cl1.drop (i*s+m*s)=xs.drop (i*s)++cl.drop ((i+m)*s+(n - i)*s):=by
  simp only[cl1];rw[List.drop_append_of_le_length qa9,Qd7 qa9,Qci]
 have l2:cl2.length=c*s:=by
  simp only[cl2];rw[t1,d1];simp only[kT,uw,Nk];omega
 refine⟨l1,l2,?_⟩;simp only[cl2];rw[t1,d1,<-Oy,<-Oy,Qbv qbp,Qb4 qbp,Oy]
theorem Gh {b:Nat}{cl:List Value}{e':TypeId}(hb:w.heap[b]? =some (.cells cl.toArray e' (0,0)))(o j:Nat):w.cell? ((⟨b,o,none⟩:Addr).add j)=cl[o+j]? :=by rw[kX,cell_of hb]
def aiy (e s:Nat)(v:Value)(w:World)(n:Nat)(xs:List Value)(r:Ending)(w':World):Prop:=
 ∃v',r= .returned v'/\w'.ownsRow 0 e s v' n xs/\w.grownBy w' v.ownBlock/\(v'.ownBlock=v.ownBlock\/v'.ownBlock=some w.heap.size)
theorem Xj {f t ti ov s e tb:Nat}(H:He P f t ti ov s)(hs0:0 < s)(hsl:P.underlying t=some (.slice e))(hsz:∀w,(sizeOf e).run P w= .ok s w)
  (hov:∀args w,(callFunc ov args).run P w=((Extern.SlicesOverlaps.overlaps #[t,t] #[tb] args).run P w).andThen fun v w=> .ok (.value v) w)
  {b n c i m vb vc:Nat} {cl cl2 xs ys:List Value} (hvb:vb≠b) (hb:w.heap[b]? =some (.cells cl.toArray e (0,0))) (hb2:w.heap[vb]? =some (.cells cl2.toArray e (0,0)))
  (hcl:cl.length=c*s) (hx:cl.take (n*s)=xs) (hy:cl2.take (m*s)=ys) (hyl:ys.length=m*s) (hx1:xs.all one'=true) (hy1:ys.all one'=true)
  (hi:i < n) (hm:0 < m) (hc:n+m<=c) (hcm:c<=maxLen):
  Calls P f #[.slice (some ⟨b,0,none⟩) n c, .int .i64 i, .slice (some ⟨vb,0,none⟩) m vc] w (aiy e s (.slice (some ⟨b,0,none⟩) n c) w (n+m) (xs.take (i*s)++(ys++xs.drop (i*s)))):=by
 obtain⟨e1,e2,l1,l2,l3⟩:=adM hi hc hcl hx hyl;have m1:i*s<=n*s:=Om _ au;have m2:(n+m)*s<=c*s:=Om _ hc;have m3:(n+m)*s=n*s+m*s:=QO ..;have m4:(i+m)*s=i*s+m*s:=QO ..;have m5:(n - i)*s=n*s - i*s:=Qew ..;have hbd:w.drew.heap[b]? =some (.cells cl.toArray e (0,0)):=hb;have min1:Nat.min (n+m - i) (n+m - (i+m))=n - i:=by show min _ _=_;omega
 have min2:Nat.min m (n+m - i)=m:=by show min _ _=_;omega
 obtain⟨w1,r1,hw1,n1,z1,o1,t1,p1⟩:=ve (P:=P) (w:=w.drew) (t:=t) (e:=e) (s:=s) (b:=b) (o:=(i+m)*s) (sLen:=n+m - i) (dLen:=n+m - (i+m)) (ad:=⟨b,i*s,none⟩) (cs:=xs.drop (i*s)) (cur:=cl) hsl hsz hbd
  (by rw[min1,e2]) (fun j u hj=>by
   rw[Gh hbd,<-Qbp];rw[<-e1,Nj]at hj;split at hj
   ·exact hj
   ·cases hj) (by rw[e2,hcl];omega) (by
   rw[Nv]at hx1⊢;exact fun u hu=>hx1 u (Qeh hu))
 rw[e2]at hw1;have aJW:w1.heap[vb]? =some (.cells cl2.toArray e (0,0)):=(n1 vb hvb).trans hb2;obtain⟨w2,r2,hw2,n2,z2,o2,t2,p2⟩:=ve (P:=P) (w:=w1) (t:=t) (e:=e) (s:=s) (b:=b) (o:=i*s) (sLen:=m) (dLen:=n+m - i) (ad:=⟨vb,0,none⟩) (cs:=ys) hsl hsz hw1
  (by rw[min2,hyl]) (fun j u hj=>by
   rw[Gh aJW,DU];rw[<-hy,Nj]at hj;split at hj
   ·exact hj
   ·cases hj) (by rw[hyl,l1];omega) hy1
 rw[hyl]at hw2;rw[min1]at r1;rw[min2]at r2;refine(H.shift b n c i m vb vc w w1 w2 hi hm hc (by unfold maxLen at hcm;omega) (fun lb cb x=> ?_) r1 (fun ty dc=>r2 ty dc vc)).mono fun r w' hr=> ?_
 ·rw[hov,Lib.run_overlaps_apart w t tb e hsl s hsz ⟨vb,0,none⟩ ⟨b,x,none⟩ m vc lb cb hvb e e cl2.length cl.length (by simp[World.shape?,hb2]) (by simp[World.shape?,hb]) (by have:0 < c*s:=Nat.mul_pos au hs0;omega) (by simp[World.frozen?,hb2]) (by simp[World.frozen?,hb2])];rfl
 ·obtain⟨rfl,rfl⟩:=hr;refine⟨_,rfl,⟨?_, .inr ⟨b,c,_,rfl,vg _,hw2,by omega,hcm,?_,l3⟩⟩,⟨o2.trans o1,t2.trans t1,p2.trans p1,?_,fun k hk hne=> ?_⟩, .inl rfl⟩
  ·rw[<-l3,uw,l2];omega
  ·rw[Qcq];exact l2
  ·rw[z2,z1];exact l9 _
  ·have hkb:k≠b:=fun e=>hne qcx
   rw[n2 k hkb,n1 k hkb];rfl
theorem agw {nl xs ys:List Value}{n m c i s:Nat}(hi:i < n)(hc:n+m<=c)(hnl:nl.length=c*s)(hxl:xs.length=n*s)(ht:nl.take (i*s)=xs.take (i*s))(hy:ys.length=m*s):
  let n1:=nl.take (i*s)++(ys++nl.drop (i*s+m*s))
  let n2:=n1.take ((i+m)*s)++(xs.drop (i*s)++n1.drop ((i+m)*s+(n - i)*s))
  (xs.drop (i*s)).length=(n - i)*s/\n1.length=c*s/\n2.length=c*s/\n2.take ((n+m)*s)=xs.take (i*s)++(ys++xs.drop (i*s)):=by
 have m1:i*s<=n*s:=Om _ au;have m2:(n+m)*s<=c*s:=Om _ hc;have m3:(n+m)*s=n*s+m*s:=QO ..;have m4:(i+m)*s=i*s+m*s:=QO ..;have m5:(n - i)*s=n*s - i*s:=Qew ..;have e2:(xs.drop (i*s)).length=(n - i)*s:=by rw[Nk,hxl,m5]
 intro n1 n2;have l1:n1.length=c*s:=by
  simp only[n1,kT,uw,Nk];omega
 have t1:n1.take ((i+m)*s)=xs.take (i*s)++ys:=by
  simp only[n1];rw[ht,<-Oy,Qbv (by simp only[kT,uw];omega),Qb4 (by simp only[kT,uw];omega)]
 have l2:n2.length=c*s:=by
  simp only[n2,kT,uw,Nk,l1,hxl];omega
 refine⟨e2,l1,l2,?_⟩;simp only[n2];rw[t1,<-Oy,Qbv qbp,Qb4 qbp,Oy]
theorem acE {f t ti ov s e bytes:Nat}{kn:IntKind}{inf:TypeInfo}{z:Value}(H:He P f t ti ov s)(hs0:0 < s)(hsl:P.underlying t=some (.slice e))(hti:P.underlying ti=some (.int kn))(hsz:∀w,(sizeOf e).run P w= .ok s w)
  (agd:P.info? e=some inf) (hz:inf.zero=some z) (his:inf.size=s) (hib:inf.bytes=bytes) (hzs:z.cells.size=s)
  {b n c i m vb vc:Nat} {cl cl2 xs ys:List Value} (hvb:vb≠b) (hb:w.heap[b]? =some (.cells cl.toArray e (0,0))) (hb2:w.heap[vb]? =some (.cells cl2.toArray e (0,0)))
  (hcl:cl.length=c*s) (hx:cl.take (n*s)=xs) (hy:cl2.take (m*s)=ys) (hyl:ys.length=m*s) (hx1:xs.all one'=true) (hy1:ys.all one'=true)
  (hi:i < n) (hm:0 < m) (hnc:n<=c) (hc:c < n+m) (h63:n+m<=maxLen) (hbytes:(n+m)*bytes<=140737488355328):
  Calls P f #[.slice (some ⟨b,0,none⟩) n c, .int .i64 i, .slice (some ⟨vb,0,none⟩) m vc] w (aiy e s (.slice (some ⟨b,0,none⟩) n c) w (n+m) (xs.take (i*s)++(ys++xs.drop (i*s)))):=by
 have m0:n*s<=c*s:=Om _ hnc;have m1:i*s<=n*s:=Om _ au;have m3:(n+m)*s=n*s+m*s:=QO ..;have m4:(i+m)*s=i*s+m*s:=QO ..;have m5:(n - i)*s=n*s - i*s:=Qew ..;have hxl:xs.length=n*s:=by rw[<-hx,uw];omega
 have hxi:cl.take (i*s)=xs.take (i*s):=by rw[<-hx,Qda,Qcv m1]
 have hold:(Builtin.firstCells inf.size i (.slice (some ⟨b,0,none⟩) i c)).run P w.drew= .ok (xs.take (i*s)).toArray w.drew:=by
  have hbd:w.drew.heap[b]? =some (.cells cl.toArray e (0,0)):=hb;have:=run_loadCells_list (P:=P) w.drew ⟨b,0,none⟩ (xs.take (i*s)) (fun j u hj=>by
   rw[Gh hbd,DU];rw[<-hxi,Nj]at hj;split at hj
   ·exact hj
   ·cases hj)
  rw[uw,Qcv au]at this;rw[his];exact this
 have hsum:i+(n+m - i)=n+m:=by omega
 have hap:∀ty,_:=fun ty=>Lib.run_append_grow_zeros (P:=P) w t ti ty e inf z .i64 kn hsl hti agd hz (some ⟨b,0,none⟩) i c (xs.take (i*s)) hold (n+m - i) au au au (by rw[hsum];unfold maxLen at h63;omega)
  (by rw[hib];have:=Om bytes (show n+m - i<=n+m by omega);omega) (by rw[hib,hsum];exact growslice_fits hc hbytes)
 rw[hsum]at hap;have hG1:n+m<=grownCap w (n+m) c e:=grownCap_ge w _ _ _;have hG2:grownCap w (n+m) c e<=maxLen:=grownCap_le_maxLen w (n+m) c e (by unfold maxLen at*;omega);generalize grownCap w (n+m) c e=G at*;have zsz:∀k,(Builtin.zeroCells z.cells k).size=k*s:=fun k=>by simp[Builtin.zeroCells,hzs]
 generalize hNL:((xs.take (i*s)).toArray++Builtin.zeroCells z.cells (n+m - i)++Builtin.zeroCells z.cells (G - (n+m)))=arr at hap;have hal:(xs.take (i*s)).length=i*s:=by rw[uw];omega
 have hnl:arr.toList.length=G*s:=by
  rw[<-hNL,Qj,Qdl,Qdl,zsz,zsz,Qcq,hal,<-QO,<-QO];congr 1;omega
 have hnt:arr.toList.take (i*s)=xs.take (i*s):=by
  rw[<-hNL,Qb8,Qb8,Oy,Qbv (by rw[List.toList_toArray,hal];exact l9 _),List.toList_toArray,Qb4 au]
 generalize hw1:w.drew.alloc (.cells arr e)=w1 at hap;have hb1:∀k,k < w.heap.size->w1.heap[k]? =w.heap[k]? :=fun k hk=>by rw[<-hw1];exact heap_alloc_old w.drew _ hk
 have hh:w1.heap[w.heap.size]? =some (.cells arr.toList.toArray e (0,0)):=by rw[<-hw1,Array.toArray_toList];exact heap_alloc_new w.drew _
 have hz1:w.heap.size < w1.heap.size:=by
  rw[<-hw1];show w.heap.size < (w.heap.push _).size
  simp
 have lb:=tZ hb;have lv:=tZ hb2;obtain⟨e2,l1,l2,l3⟩:=agw (c:=G) hi hG1 hnl hxl hnt hyl;have mG:(n+m)*s<=G*s:=Om _ hG1;have min1:Nat.min m (n+m - i)=m:=by show min _ _=_;omega
 have min2:Nat.min (n - i) (n+m - (i+m))=n - i:=by show min _ _=_;omega
 obtain⟨w2,r1,hw2,n1,z1,o1,t1,p1⟩:=ve (P:=P) (w:=w1) (t:=t) (e:=e) (s:=s) (b:=w.heap.size) (o:=i*s) (sLen:=m) (dLen:=n+m - i) (ad:=⟨vb,0,none⟩) (cs:=ys) hsl hsz hh
  (by rw[min1,hyl]) (fun j u hj=>by
   rw[Gh ((hb1 vb lv).trans hb2),DU];rw[<-hy,Nj]at hj;split at hj
   ·exact hj
   ·cases hj) (by rw[hyl,hnl];omega) hy1
 rw[hyl]at hw2;have hbw2:w2.drew.heap[b]? =some (.cells cl.toArray e (0,0)):=((n1 b au).trans (hb1 b lb)).trans hb;obtain⟨w3,r2,hw3,n2,z2,o2,t2,p2⟩:=ve (P:=P) (w:=w2.drew) (t:=t) (e:=e) (s:=s) (b:=w.heap.size) (o:=(i+m)*s) (sLen:=n - i) (dLen:=n+m - (i+m)) (ad:=⟨b,i*s,none⟩) (cs:=xs.drop (i*s)) hsl hsz (show w2.drew.heap[w.heap.size]? =_ from hw2)
  (by rw[min2,e2]) (fun j u hj=>by
   rw[Gh hbw2];rw[Qbp,<-hx,Nj]at hj;split at hj
   ·exact hj
   ·cases hj) (by rw[e2,l1];omega) (by
   rw[Nv]at hx1⊢;exact fun u hu=>hx1 u (Qeh hu))
 rw[e2]at hw3;rw[min1]at r1;rw[min2]at r2;have aFG:w1.os=w.os/\w1.tape=w.tape/\w1.output=w.output:=by rw[<-hw1];exact⟨rfl,rfl,rfl⟩
 refine(H.grow b n c i m w.heap.size G vb vc w w1 w2 w3 hi hm hnc hc hG1 (by unfold maxLen at h63;omega) (fun ty=> ?_) (fun ty dc=>r1 ty dc vc) r2).mono fun r w' hr=> ?_
 ·have:=hap ty;rw[show(((n+m - i:Nat)):Int)=(n:Int)+m - i by omega]at this;exact this
 ·obtain⟨rfl,rfl⟩:=hr;refine⟨_,rfl,⟨?_, .inr ⟨w.heap.size,G,_,rfl,vg _,hw3,hG1,hG2,?_,l3⟩⟩,⟨o2.trans (o1.trans aFG.1),t2.trans (t1.trans aFG.2.1),p2.trans (p1.trans aFG.2.2),?_,fun k hk hne=> ?_⟩, .inr rfl⟩
  ·rw[<-l3,uw,l2];omega
  ·rw[Qcq];exact l2
  ·rw[z2];show w.heap.size<=w2.heap.size;omega
  ·rw[n2 k au];show w2.heap[k]? =_
   rw[n1 k au,hb1 k hk]
theorem aiX {f t ti ov s e tb bytes:Nat}{kn:IntKind}{inf:TypeInfo}{z:Value}(H:He P f t ti ov s)(hs0:0 < s)(hsl:P.underlying t=some (.slice e))(hti:P.underlying ti=some (.int kn))(hsz:∀w,(sizeOf e).run P w= .ok s w)
  (hov:∀args w,(callFunc ov args).run P w=((Extern.SlicesOverlaps.overlaps #[t,t] #[tb] args).run P w).andThen fun v w=> .ok (.value v) w)
  (agd:P.info? e=some inf) (hz:inf.zero=some z) (his:inf.size=s) (hib:inf.bytes=bytes) (hzs:z.cells.size=s)
  {n m i:Nat} {v1 v2:Value} {xs ys:List Value} (XV:w.ownsRow 0 e s v1 n xs) (ajd:w.ownsRow 0 e s v2 m ys) (hne:∀b,v1.ownBlock=some b->v2.ownBlock≠some b)
  (hx1:∀u∈xs,u.oneCell'=true) (hy1:∀u∈ys,u.oneCell'=true) (hi:i<=n) (hm:0 < m) (h63:n+m<=maxLen) (hbytes:(n+m)*bytes<=140737488355328):
  Calls P f #[v1, .int .i64 i,v2] w (aiy e s v1 w (n+m) (xs.take (i*s)++(ys++xs.drop (i*s)))):=by
 have hxa:xs.all one'=true:=by rw[Nv];exact fun u hu=>agW (hx1 u hu)
 have hya:ys.all one'=true:=by rw[Nv];exact fun u hu=>agW (hy1 u hu)
 obtain⟨hyl,hy⟩:=ajd;rcases hy with⟨_,hm0⟩ | ⟨vb,vc,aIF,rfl,_,hh2,hmc,hcm2,hcs2,ht2⟩
 ·omega
 by_cases hin:i=n
 ·subst hin;obtain⟨v',w',r1,r2,r3,r4⟩:=FB (P:=P) (w:=w) t 0 e inf z s bytes hsl agd hz his hib hzs hs0 v1 i xs XV (some ⟨vb,0,none⟩) m vc ys hyl (fun ad h j u hj=>by
   injection h with h
   subst h;have aJY:w.heap[vb]? =some (.cells aIF.toList.toArray e (0,0)):=by simpa using hh2
   rw[Gh aJY,DU];rw[<-ht2,Nj]at hj;split at hj
   ·exact hj
   ·cases hj) (fun h=>by cases h) hy1 h63 hbytes
  have hxl:=XV.1;rw[Qb4 au,Qd7 au,Qbi];have hv1:∃a c,v1= .slice a i c/\i<=c:=by
   rcases XV.2 with⟨rfl,h0⟩ | ⟨g,cap,cur,rfl,_,_,h1,_⟩
   ·subst h0;exact⟨none,0,rfl,l9 _⟩
   ·exact⟨_,cap,rfl,h1⟩
  obtain⟨a,c,rfl,hic⟩:=hv1;refine(H.atEnd a (some ⟨vb,0,none⟩) i c m vc v' w w' hm hic (by unfold maxLen at h63;omega) (fun _=>r1)).mono fun r w1 hr=> ?_;obtain⟨rfl,rfl⟩:=hr;exact⟨v',rfl,r2,r3,r4⟩
 ·rcases XV.2 with⟨_,h0⟩ | ⟨b,c,cur,rfl,_,hh1,hnc,hcm,hcs,ht⟩
  ·omega
  have hvb:vb≠b:=fun e=>hne b rfl qcx
  have hb:w.heap[b]? =some (.cells cur.toList.toArray e (0,0)):=by simpa using hh1
  have hb2:w.heap[vb]? =some (.cells aIF.toList.toArray e (0,0)):=by simpa using hh2
  have hcl:cur.toList.length=c*s:=by rw[Qj];exact hcs
  by_cases hroom:n+m<=c
  ·exact Xj H hs0 hsl hsz hov hvb hb hb2 hcl ht ht2 hyl hxa hya au hm hroom hcm
  ·exact acE H hs0 hsl hti hsz agd hz his hib hzs hvb hb hb2 hcl ht ht2 hyl hxa hya au hm hnc au h63 hbytes
end
section
variable {D:Type}{P:Program}{S:Sh D}
def aku (S:Sh D)(e s bytes:Nat):Ct D:=fun args dE=>
 match args,dE with
 | [.one (.lf (.own a)), .one (.lf (.int k i)), .one (.lf (.own b))],[.row e1 d1, .row e2 d2]=>
  if Nat.beq a 0 && (Nat.beq b 1 && (Nat.beq e1 e && (Nat.beq e2 e && (Nat.beq (S.size d1) s && (Nat.beq (S.size d2) s && Xx k .i64)))))then
   (match S.sub d1 0 i.toNat,S.sub d1 i.toNat (S.len d1)with
   | some p,some q=>(match S.cat d2 q with
    | some r=>(match S.cat p r with
     | some d=>some (some (dp (0<=i/\i<=S.len d1/\0 < S.len d2/\bQ (S.len d1+S.len d2) bytes)), .one (.lf (.own 2)),[(2, .row e d)],[])
     | none=>none)
    | none=>none)
   | _,_=>none)else none
 | _,_=>none
theorem row_one (hS:jf S){M:Nat->Prop}{w:World}{g:Nat->Option Value}{d:D}{s:Nat}{xs:List Value}(hs0:0 < s)(hd:S.size d=s)(hl:xs.length=S.len d*s)
  (hc:∀i j,i < S.len d->j < S.size d->∃u,xs[i*S.size d+j]? =some u/\(S.cell d i j).jI=true/\(S.cell d i j).Rel S M w g u):∀u∈xs,u.oneCell'=true:=by
 intro u hu;obtain⟨k,hk⟩:=Qeg hu;have hkl:k < xs.length:=(Qa6.1 hk).1;rw[hl]at hkl;have hi:k / s < S.len d:=by rw[Qee hs0];exact hkl
 obtain⟨u',hu',hda,hr⟩:=hc _ _ hi (by rw[hd];exact Qc6 k hs0);have:k / s*s+k % s=k:=by rw[Qcy];exact Nat.div_add_mod k s
 rw[hd,this,hk]at hu';injection hu' with hu'
 subst hu';exact LP hda hr
theorem afT {f t ti ov s e tb bytes:Nat}{kn:IntKind}{inf:TypeInfo}{z:Value}(hS:jf S)(henter:∀(args:Array Value) (w:World),(callFunc f args).run P w= .ok (.enter f args) w)(H:He P f t ti ov s)(hs0:0 < s)(hsl:P.underlying t=some (.slice e))(hti:P.underlying ti=some (.int kn))(hsz:∀w,(sizeOf e).run P w= .ok s w)
  (hov:∀args w,(callFunc ov args).run P w=((Extern.SlicesOverlaps.overlaps #[t,t] #[tb] args).run P w).andThen fun v w=> .ok (.value v) w)
  (agd:P.info? e=some inf) (hz:inf.zero=some z) (his:inf.size=s) (hib:inf.bytes=bytes) (hzs:z.cells.size=s):fV P S f (aku S e s bytes):=by
 refine⟨henter,?_⟩;intro X N g w args nZ dE p r post keep h hargs hct hp;unfold aku at hct;split at hct
 ·rename_i a k i b e1 d1 e2 d2;split at hct
  ·rename_i hc;simp only[jR]at hc;obtain⟨c1,c2,c3,c4,c5,c6,c7⟩:=hc;have c1:=Qa c1;have c2:=Qa c2;have c3:=Qa c3;have c4:=Qa c4;have c5:=Qa c5;have c6:=Qa c6;have c7:k= .i64:=by simpa[Xx]using c7
   subst c1 c2 c3 c4 c7;split at hct
   ·rename_i dp dq hdp hdq;split at hct
    ·rename_i dr hdr;split at hct
     ·rename_i d hd;injection hct with hct
      injection hct with q1 q2
      injection q2 with q2 q3
      injection q3 with q3 q4
      subst q1 q2 q3 q4;obtain⟨p1,p2,p3,p4,p5⟩:=hp;match args,hargs with
      | [v1,vi,v2],⟨hv1,hvi,hv2,_⟩=>
       have hv1:g 0=some v1:=hv1;have hv2:g 1=some v2:=hv2;have hvi:vi= .int .i64 i:=hvi;subst hvi;have hi0:((i.toNat:Nat):Int)=i:=by omega
       obtain⟨u1,hu1,hm1,xs,XV,cell1⟩:=h.dE 0 (.row _ d1) rfl;obtain⟨u2,hu2,hm2,ys,ajd,cell2⟩:=h.dE 1 (.row _ d2) rfl;rw[hv1]at hu1;rw[hv2]at hu2;injection hu1 with hu1
       injection hu2 with hu2
       subst hu1 hu2;rw[c5]at XV;rw[c6]at ajd;have hx1:=row_one hS hs0 c5 XV.1 cell1;have hy1:=row_one hS hs0 c6 ajd.1 cell2;have hsl1:∃a n c,v1= .slice a n c:=by rcases XV.2 with⟨rfl,_⟩ | ⟨b,cp,cur,rfl,_⟩<;>exact⟨_,_,_,rfl⟩
       have hsl2:∃a n c,v2= .slice a n c:=by rcases ajd.2 with⟨rfl,_⟩ | ⟨b,cp,cur,rfl,_⟩<;>exact⟨_,_,_,rfl⟩
       have hne:∀b,v1.ownBlock=some b->v2.ownBlock≠some b:=by
        intro b hb1 hb2;rw[o_ v1 hsl1]at hb1;rw[o_ v2 hsl2]at hb2;exact absurd (h.sep 0 1 v1 v2 b rfl rfl hv1 hv2 hb1 hb2) au
       have run:=aiX H hs0 hsl hti hsz hov agd hz his hib hzs XV ajd hne hx1 hy1 (i:=i.toNat) au p3 (by simp only[maxLen];omega) p5;rw[hi0]at run;refine run.mono fun r w' hr=> ?_;obtain⟨v',rfl,o',gr,ob⟩:=hr;have Bg:∃a n c,v'= .slice a n c:=by rcases o'.2 with⟨rfl,_⟩ | ⟨b,cp,cur,rfl,_⟩<;>exact⟨_,_,_,rfl⟩
       rw[o_ v' Bg,o_ v1 hsl1]at ob;rw[o_ v1 hsl1]at gr;obtain⟨s1,s2,s3⟩:=hS.sub _ _ _ _ hdp au au;obtain⟨t1,t2,t3⟩:=hS.sub _ _ _ _ hdq au (l9 _);obtain⟨k1,k2,k3,k4,k5⟩:=hS.cat _ _ _ hdr;obtain⟨j1,j2,j3,j4,j5⟩:=hS.cat _ _ _ hd;have hsd:S.size d=s:=by omega
       have hld:S.len d=S.len d1+S.len d2:=by omega
       have aFF:∀u,More g (upd g 2 (some u)):=by
        intro u q y hq;have:q≠2:=fun e=>absurd (h.al q y hq) (by subst e;simp)
        rw[bP _ _ _ _ this];exact hq
       obtain⟨g1,g2,g3⟩:=h.move (l:=0) (fr:=2) (bk':= .row _ d) (v:=v1) (v':=v') rfl hv1 qa2 gr.os gr.tape gr.output gr.size (fun n hn hne=>gr.block n hn fun e=>hne e.symm)
        (fun b hb'=>by
         rcases ob with ob | ob
         ·exact .inl (ob▸hb')
         ·rw[hb']at ob;injection ob with ob;exact .inr au)
        (fun M' hk _=>by
         refine⟨⟨fun b hb'=> ?_,by rw[hld];omega,hS.Xd _ _ _ hd⟩,_,by rw[hsd,hld];exact o',fun i' j hi' hj=> ?_⟩
         ·rcases ob with ob | ob
          ·exact hm1.1 b (ob▸hb')
          ·rw[hb']at ob;injection ob with ob;exact .inl (ob▸h.below.size)
         ·rw[hsd]at hj⊢;rw[hld]at hi';have hdt:=hS.data d i' j au au;have hxl:=XV.1;have hyl:=ajd.1;have m1:i.toNat*s<=S.len d1*s:=Om _ au;by_cases q1:i' < i.toNat
          ·obtain⟨u,hu,_,hr⟩:=cell1 i' j au au;have hlt:=oL q1 hj;refine⟨u,?_,hdt,?_⟩
           ·rw[Qbc qa9,Nj,mi hlt,<-c5];exact hu
           ·rw[j4 i' j au,s3 i' j au,DU];exact hr.keep hk (aFF _)
          ·have m2:i'*s=i.toNat*s+(i' - i.toNat)*s:=by rw[<-QO];congr 1;omega
           rw[Qba qa9,uw,show i'*s+j - min (i.toNat*s) xs.length=(i' - i.toNat)*s+j by omega];have j5':=j5 (i' - i.toNat) j au;rw[show S.len dp+(i' - i.toNat)=i' by omega]at j5';rw[j5'];by_cases q2:i' - i.toNat < S.len d2
           ·obtain⟨u,hu,hda,hr⟩:=cell2 (i' - i.toNat) j q2 au;have hlt:=oL q2 hj;refine⟨u,?_,by rw[j5']at hdt;exact hdt,?_⟩
            ·rw[Qbc au,<-c6];exact hu
            ·rw[k4 _ j q2];exact hr.keep hk (aFF _)
           ·obtain⟨u,hu,hda,hr⟩:=cell1 (i' - S.len d2) j au au;have m3:(i' - i.toNat)*s=S.len d2*s+(i' - i.toNat - S.len d2)*s:=by rw[<-QO];congr 1;omega
            have m4:(i' - S.len d2)*s=i.toNat*s+(i' - i.toNat - S.len d2)*s:=by rw[<-QO];congr 1;omega
            have k5':=k5 (i' - i.toNat - S.len d2) j au;rw[show S.len d2+(i' - i.toNat - S.len d2)=i' - i.toNat by omega]at k5';refine⟨u,?_,by rw[j5']at hdt;exact hdt,?_⟩
            ·rw[Qba au,Qbp,hyl,show i.toNat*s+((i' - i.toNat)*s+j - S.len d2*s)=(i' - S.len d2)*s+j by omega,<-c5];exact hu
            ·rw[k5',t3 _ j au,show i.toNat+(i' - i.toNat - S.len d2)=i' - S.len d2 by omega];exact hr.keep hk (aFF _))
       obtain⟨f1,f2⟩:=g1.aIE 1 none rfl (fun bk hbk=>by cases hbk);have htab:∀ee,upd (upd (upd (kF [Bk.row ee d1,Bk.row ee d2]) 0 none) 2 (some (Bk.row ee d))) 1 none=vI [(2,Bk.row ee d)] [] [Bk.row ee d1,Bk.row ee d2]:=by
        intro ee;funext q;match q with
        | 0=>rfl
        | 1=>rfl
        | 2=>rfl
        | q+3=>simp[upd,kF,vI,jP,rO]
       rw[htab]at f1 f2;exact⟨v',_,rfl,g3,f1.weaken fun _ _=>trivial,upd_same _ _ _⟩
     ·cases hct
    ·cases hct
   ·cases hct
  ·cases hct
 ·cases hct
end
end Go.Vc
namespace Go.Vc
open Go.RowKit
section
variable {D:Type}{P:Program}{S:Sh D}{T:TypeId->Option Ty}{Γ:FuncId->Option (Ct D)}{M M' N:Nat->Prop}{w w':World}{w0:Bs}{g g':Nat->Option Value}{blk:Nat->Option (Bk D)}{al:Nat->Prop}
 {a:Act} {o:Oper} {K:Act->World->Prop} {Q:Exit->Act->World->Prop} {slot:Nat->Sl D} {out:Out D} {fr:Nat} {ids jA:List Nat}
theorem g_ {l:Nat}:∀{ids:List Nat},rO l ids=true ↔ l∈ids
 | []=>by simp[rO]
 | x::r=>by
  simp only[rO,Qbx,g_,xI];constructor
  ·rintro(h | h)
   ·exact .inl (Qa h).symm
   ·exact .inr h
  ·rintro(rfl | h)
   ·exact .inl qa2
   ·exact .inr h
theorem qH:∀(r ids:List Nat),ids.Nodup->(mr ids r).Nodup
 | [],ids,h=>h
 | l::r,ids,h=>by
  unfold mr;refine qH r _ ?_;split
  ·exact h
  ·rename_i hn;rw[Qe];refine⟨h,by simp,fun x hx y hy=> ?_⟩;simp at hy;subst hy;rintro rfl;exact hn (g_.2 hx)
theorem E5:∀(n:Nat) (ids:List Nat),ids.Nodup->(reach blk n ids).Nodup
 | 0,ids,h=>h
 | n+1,ids,h=>E5 n _ (qH _ _ h)
theorem sQ:∀{r:List Nat},allIn ids r=true->∀l∈r,l∈ids
 | [],_,l,hl=>by simp at hl
 | x::r,h,l,hl=>by
  simp only[allIn,jR]at h;rcases xI.1 hl with rfl | hl
  ·exact g_.1 h.1
  ·exact sQ h.2 l hl
theorem qo:∀{ids:List Nat} {dE:List (Bk D)},uM blk ids=some dE->dE.length=ids.length/\∀(i l:Nat),ids[i]? =some l->∃bk,blk l=some bk/\dE[i]? =some bk
 | [],dE,h=>by simp[uM]at h;subst h;simp
 | x::r,dE,h=>by
  unfold uM at h;split at h
  ·rename_i b bs hb hbs;injection h with h
   subst h;obtain⟨h1,h2⟩:=qo hbs;refine⟨by simp[h1],fun i l hi=> ?_⟩;cases i with
   | zero=>simp at hi;subst hi;exact⟨b,hb,rfl⟩
   | succ i=>exact h2 i l qcl
  ·cases h
theorem sK:∀{ids:List Nat} {l:Nat},l∈ids->ids[jg ids l]? =some l
 | [],l,h=>by simp at h
 | x::r,l,h=>by
  unfold jg;split
  ·rename_i he;rw[Qa he];rfl
  ·rename_i he;have:l∈r:=by
    rcases xI.1 h with rfl | h
    ·simp at he
    ·exact h
   simpa using sK this
theorem Fv (hn:ids.Nodup){i l:Nat}(h:ids[i]? =some l):jg ids l=i:=by
 have hm:l∈ids:=Qbt h;have h2:=sK hm;have hi:=(Qa6.1 h).1;have hj:=(Qa6.1 h2).1;have e1:=(Qa6.1 h).2;have e2:=(Qa6.1 h2).2;exact(List.getElem_inj hn).1 (e2.trans e1.symm)
theorem ad1 {f:Nat->Nat}:∀{caps:List Nat} {vs:List Value},(∀l∈caps,∀v,g l=some v->g' (f l)=some v)->caps.map g=vs.map some->(caps.map f).map g'=vs.map some
 | [],[],_,_=>rfl
 | c::caps,v::vs,hf,h=>by
  simp only[DT,Qdh]at h⊢;exact⟨hf c qa2 v h.1,ad1 (fun l hl=>hf l qci) h.2⟩
 | [],_::_,_,h=>by simp at h
 | _::_,[],_,h=>by simp at h
theorem Lf.Rel.ren {f:Nat->Nat}{x:Lf D}{v:Value}(h:x.Rel S M w g v)(hf:∀l∈x.refs,∀u,g l=some u->g' (f l)=some u)(hM:x.nz=true->∀b,M' b->M b):(x.ren f).Rel S M' w g' v:=by
 cases x with
 | ptr l o=>obtain⟨b,h1,h2⟩:=h;exact⟨b,hf l qb3 _ h1,h2⟩
 | own l=>exact hf l qb3 _ h
 | opt l i j sz=>obtain⟨b,n,cap,h1,h2⟩:=h;exact⟨b,n,cap,hf l qb3 _ h1,h2⟩
 | part l i j sz f=>obtain⟨a,n,cap,h1,h2⟩:=h;exact⟨a,n,cap,hf l qb3 _ h1,h2⟩
 | glb i=>exact h
 | Xa x=>exact h
 | xt e=>exact Xt.Rel.mono h (hM rfl)
 | fn f' caps=>obtain⟨vs,h1,h2⟩:=h;exact⟨vs,h1,ad1 hf h2⟩
 | dat d=>exact dA.mono h (hM rfl)
 | elt d i j=>obtain⟨a,n,cap,h1,h2⟩:=h;exact⟨a,n,cap,h1.mono (hM rfl),h2⟩
 | any=>trivial
 | unk p=>exact h
 | val x=>exact h
 | bool b=>exact h
 | int k n=>exact h
 | str s=>exact h
theorem aY.ren {f:Nat->Nat}:∀{xs:List (Lf D)} {vs:List Value},aY S M w g xs vs->(∀l∈xs.flatMap Lf.refs,∀u,g l=some u->g' (f l)=some u)->(xs.any Lf.nz=true->∀b,M' b->M b)->aY S M' w g' (xs.map (Lf.ren f)) vs
 | [],[],_,_,_=>trivial
 | x::xs,v::vs,h,hf,hM=>by
  simp only[List.any_cons,Qbx]at hM;exact⟨h.1.ren (fun l hl=>hf l qci) (fun hd=>hM (.inl hd)),aY.ren h.2 (fun l hl=>hf l qb7) (fun hd=>hM (.inr hd))⟩
theorem Sv.Rel.ren {f:Nat->Nat}{x:Sv D}{v:Value}(h:x.Rel S M w g v)(hf:∀l∈x.refs,∀u,g l=some u->g' (f l)=some u)(hM:x.nz=true->∀b,M' b->M b):(x.ren f).Rel S M' w g' v:=by
 cases x with
 | lf x=>exact Lf.Rel.ren h hf hM
 | agg xs=>obtain⟨vs,h1,h2⟩:=h;exact⟨vs,h1,h2.ren hf hM⟩
theorem iM.ren {f:Nat->Nat}:∀{xs:List (Sv D)} {vs:List Value},iM S M w g xs vs->(∀l∈xs.flatMap Sv.refs,∀u,g l=some u->g' (f l)=some u)->(xs.any Sv.nz=true->∀b,M' b->M b)->iM S M' w g' (xs.map (Sv.ren f)) vs
 | [],[],_,_,_=>trivial
 | x::xs,v::vs,h,hf,hM=>by
  simp only[List.any_cons,Qbx]at hM;exact⟨h.1.ren (fun l hl=>hf l qci) (fun hd=>hM (.inl hd)),iM.ren h.2 (fun l hl=>hf l qb7) (fun hd=>hM (.inr hd))⟩
theorem Sl.Rel.ren {f:Nat->Nat}{x:Sl D}{v:Value}(h:x.Rel S M w g v)(hf:∀l∈x.refs,∀u,g l=some u->g' (f l)=some u)(hM:x.nz=true->∀b,M' b->M b):(x.ren f).Rel S M' w g' v:=by
 cases x with
 | one x=>exact Sv.Rel.ren h hf hM
 | yD xs=>obtain⟨vs,h1,h2⟩:=h;exact⟨vs,h1,h2.ren hf hM⟩
theorem J4 {f:Nat->Nat}(x:Option (Bk D)):hot (x.map (Bk.ren f))=hot x:=by
 cases x with
 | none=>rfl
 | some bk=>cases bk<;>rfl
theorem S_ {f:Nat->Nat}{x:Lf D}(h:x.jI=true):x.ren f=x:=by cases x<;>first | rfl | simp[Lf.jI]at h
theorem adh {x:Lf D}(h:x.jI=true):x.refs=[]:=by cases x<;>first | rfl | simp[Lf.jI]at h
theorem yL.ren {f:Nat->Nat}{B B':Bs}{bk:Bk D}{v:Value}(h:yL S M w g B bk v)(hf:∀l∈bk.refs,∀u,g l=some u->g' (f l)=some u)(hM:bk.nz=true->∀b,M' b->M b)
  (hB:hot (some bk)=true->∀b,dY v=some b->B'.Mine b):yL S M' w g' B' (bk.ren f) v:=by
 cases bk with
 | cells cs=>
  obtain⟨b,vs,t,rfl,_,hh,hr⟩:=h;exact⟨b,vs,t,rfl,hB rfl b rfl,hh,hr.ren hf hM⟩
 | row e d=>
  obtain⟨hm,xs,hown,hc⟩:=h;refine⟨⟨hB rfl,hm.2⟩,xs,hown,fun i j hi hj=> ?_⟩;obtain⟨u,h1,h2,h3⟩:=hc i j hi hj;have:=h3.ren (g':=g') (M':=M') (f:=f) (fun l hl=>by rw[adh h2]at hl;simp at hl) (fun _=>hM rfl);rw[S_ h2]at this;exact⟨u,h1,h2,this⟩
 | xw d=>exact dA.mono h (hM rfl)
 | iter s p=>
  obtain⟨hl,b,rfl,_,hh⟩:=h;exact⟨hl,b,rfl,hB rfl b rfl,hh⟩
 | map d=>
  obtain⟨m,b,es,n,hm,hf,rfl,_,hh,hr⟩:=h;exact⟨m,b,es,n,hm,hf,rfl,hB rfl b rfl,hh,hr⟩
 | tc t cs=>
  obtain⟨b,vs,rfl,_,hh,hr⟩:=h;exact⟨b,vs,rfl,hB rfl b rfl,hh,hr.ren hf hM⟩
def Nc (N:Nat->Prop)(blk:Nat->Option (Bk D))(g:Nat->Option Value)(ids jA:List Nat):Nat->Prop:=
 fun b=>N b\/∃l v,hot (blk l)=true/\l∉ids/\l∉jA/\g l=some v/\dY v=some b
def Xc (blk:Nat->Option (Bk D))(g:Nat->Option Value)(ids:List Nat):Nat->Prop:=fun b=>∃l v,hot (blk l)=true/\l∈ids/\g l=some v/\dY v=some b
def gc (g:Nat->Option Value)(ids:List Nat):Nat->Option Value:=fun i=>(ids[i]?).bind g
theorem abl {l:Nat}(h:l∈ids):gc g ids (jg ids l)=g l:=by simp[gc,sK h]
theorem Hp.mine (h:Hp S w0 N blk g al w){l b:Nat}{v:Value}(h1:hot (blk l)=true)(h2:g l=some v)(h3:dY v=some b):b < w.heap.size/\w0.Mine b:=by
 obtain⟨bk,_,hh,hok⟩:=h.at h1 h2;exact hok.lt hh h3
theorem Hp.agh (h:Hp S w0 N blk g al w){l b:Nat}{v:Value}(h1:hot (blk l)=true)(h2:g l=some v)(h3:dY v=some b):¬N b:=fun hn=>by
 obtain⟨q1,q2⟩:=h.hN b hn;rcases(h.mine h1 h2 h3).2 with q | q
 ·omega
 ·exact q2 q
theorem aai {dE:List (Bk D)}(hg:uM blk ids=some dE){f:Nat->Nat}{i:Nat}{bk:Bk D}(h:kF (dE.map (Bk.ren f)) i=some bk):∃l ry,ids[i]? =some l/\blk l=some ry/\ry∈dE/\bk=ry.ren f:=by
 obtain⟨hl,hat⟩:=qo hg;simp only[kF,Qbd,Qcr]at h;obtain⟨ry,h0,rfl⟩:=h;have hi:i < ids.length:=by rw[<-hl];exact(Qa6.1 h0).1
 obtain⟨bk1,h1,h2⟩:=hat i ids[i] (Xh hi);rw[h0]at h2;injection h2 with h2
 subst h2;exact⟨ids[i],ry,Xh hi,h1,Qbt h0,rfl⟩
theorem vP {dE:List (Bk D)}(hg:uM blk ids=some dE){f:Nat->Nat}:∀b,aT (Nc N blk g ids jA) (kF (dE.map (Bk.ren f))) (gc g ids) b->aT N blk g b/\(N b\/∃l v,hot (blk l)=true/\l∉jA/\g l=some v/\dY v=some b\/l∈ids/\hot (blk l)=true/\g l=some v/\dY v=some b):=by
 rintro b ((hb | ⟨l,v,h1,h2,h3,h4,h5⟩) | ⟨i,v,h1,h2,h3⟩)
 ·exact⟨.inl hb, .inl hb⟩
 ·exact⟨.inr ⟨l,v,h1,h4,h5⟩, .inr ⟨l,v, .inl ⟨h1,h3,h4,h5⟩⟩⟩
 ·obtain⟨bk,hbk,hh⟩:=jK h1;obtain⟨l,ry,hl,hb0,_,rfl⟩:=aai hg hbk;have hgl:g l=some v:=by simpa[gc,hl]using h2
  have hh0:hot (blk l)=true:=by rw[hb0];have:=J4 (f:=f) (some ry);simp only[IR]at this;rw[<-this];exact hh
  exact⟨.inr ⟨l,v,hh0,hgl,h3⟩, .inr ⟨l,v, .inr ⟨Qbt hl,hh0,hgl,h3⟩⟩⟩
theorem Hp.lend (h:Hp S w0 N blk g al w){dE:List (Bk D)}(hn:ids.Nodup)(hg:uM blk ids=some dE)(hrefs:∀bk∈dE,∀l∈bk.refs,l∈ids)(hv:∀l∈jA,l∉ids):
  Hp S ⟨w,Xc blk g ids⟩ (Nc N blk g ids jA) (kF (dE.map (Bk.ren (jg ids)))) (gc g ids) (· < (dE.map (Bk.ren (jg ids))).length) w:=by
 obtain⟨hlen,hat⟩:=qo hg;refine⟨FN.refl ⟨w,Xc blk g ids⟩,?_,?_,?_,?_,?_,h.gl.mono fun b hb=>(vP hg b hb).1⟩
 ·rintro b (hb | ⟨l,v,h1,h2,h3,h4,h5⟩)
  ·refine⟨h.mlt (.inl hb),?_⟩;rintro⟨l,v,h1,h2,h3,h4⟩;exact h.agh h1 h3 h4 hb
  ·refine⟨h.mlt (.inr ⟨l,v,h1,h4,h5⟩),?_⟩;rintro⟨l',v',q1,q2,q3,q4⟩;have:=h.sep l l' v v' b h1 q1 h4 q3 h5 q4;subst this;exact h2 q2
 ·intro i bk hi;obtain⟨l,ry,hl,hb0,hmem,rfl⟩:=aai hg hi;obtain⟨v,hv0,hok⟩:=h.dE l ry hb0;refine⟨v,by simp[gc,hl,hv0],hok.ren (fun l' hl' u hu=> ?_) (fun _ b hb=>(vP hg b hb).1) (fun hh b hb=> .inr ⟨l,v,by rw[hb0];exact hh,Qbt hl,hv0,hb⟩)⟩;rw[abl (hrefs _ hmem l' hl')];exact hu
 ·intro i j vi vj b hi hj hgi hgj hbi hbj;obtain⟨bki,aFy,hhi⟩:=jK hi;obtain⟨bkj,aFz,hhj⟩:=jK hj;obtain⟨l,ry,hl,hb0,_,rfl⟩:=aai hg aFy;obtain⟨l',ai3,hl',aFx,_,rfl⟩:=aai hg aFz;have e1:hot (blk l)=true:=by rw[hb0];have:=J4 (f:=jg ids) (some ry);simp only[IR]at this;rw[<-this];exact hhi
  have e2:hot (blk l')=true:=by rw[aFx];have:=J4 (f:=jg ids) (some ai3);simp only[IR]at this;rw[<-this];exact hhj
  have:=h.sep l l' vi vj b e1 e2 (by simpa[gc,hl]using hgi) (by simpa[gc,hl']using hgj) hbi hbj;subst this;rw[<-Fv hn hl,<-Fv hn hl']
 ·intro i v hi;simp only[gc]at hi;cases hl:ids[i]? with
  | none=>rw[hl]at hi;cases hi
  | some l=>simp only[Qbj,hlen];exact(Qa6.1 hl).1
 ·intro i v hi;simp only[gc]at hi;cases hl:ids[i]? with
  | none=>rw[hl]at hi;cases hi
  | some l=>rw[hl]at hi;exact h.refs l v hi
end
end Go.Vc
namespace Go.Vc
open Go.RowKit
section
variable {D:Type}{P:Program}{S:Sh D}{T:TypeId->Option Ty}{Γ:FuncId->Option (Ct D)}{M M' N:Nat->Prop}{w w':World}{w0:Bs}{g g':Nat->Option Value}{blk blk':Nat->Option (Bk D)}{al:Nat->Prop}
 {a:Act} {o:Oper} {K:Act->World->Prop} {Q:Exit->Act->World->Prop} {slot:Nat->Sl D} {out:Out D} {fr:Nat} {ids jA:List Nat}
theorem MP (h:Hp S w0 N blk g al w){c:Nat}{e:TypeId}{d:D}{v:Value}{M':Nat->Prop}(hb:blk c=some (.row e d))(hg:g c=some v)(hM:∀b,M' b->aT N blk g b)(hn:∀b,dY v=some b->¬M' b):
  dA S M' w d v:=by
 intro w' hs;obtain⟨v',hv',hm,xs,hown,hcell⟩:=h.dE c _ hb;rw[hg]at hv';injection hv' with hv'
 subst hv';rcases hown.2 with⟨rfl,h0⟩ | ⟨b,cap,cur,rfl,_,hh,hnc,_,hcs,htake⟩
 ·have:=Be.mk (S:=S) (w:=w') d hm.2.2 none 0 (fun _ _=> .bool false) au au (fun i j hi _=>by omega) (fun i j hi _=>by omega) (fun i j _ hi _=>by omega);rwa [h0]at this
 ·have hb':w'.heap[b]? =some (.cells cur e (0,0)):=(hs b (tZ hh) (hn b rfl)).trans hh;have key:∀i j,i < S.len d->j < S.size d->∃u,cur[i*S.size d+j]? =some u/\Lf.plain (S.cell d i j) u/\∀d',S.cell d i j= .dat d'->Be S w' d' u:=by
   intro i j hi hj;obtain⟨u,hu,hda,hr⟩:=hcell i j hi hj;have hlt:=oL hi hj;have:cur[i*S.size d+j]? =some u:=by
    rw[<-htake,Nj,mi hlt]at hu;simpa using hu
   have hr':(S.cell d i j).Rel S M' w g u:=by
    have:=hr.ren (g':=g) (M':=M') (f:=fun x=>x) (fun l _ u hu=>hu) (fun _=>hM);rw[S_ hda]at this;exact this
   exact⟨u,this,Jp hda hr' hs⟩
  refine Be.mk (S:=S) (w:=w') d hm.2.2 (some ⟨b,0,none⟩) cap (fun i j=>(cur[i*S.size d+j]?).getD undef) hnc hm.2.1 (fun i j hi hj=> ?_) (fun i j hi hj=> ?_) (fun i j d' hi hj he=> ?_)
  ·obtain⟨u,hu,_⟩:=key i j hi hj;refine⟨_,rfl,?_⟩;simp only[hu,Qdc];rw[kX,DU];simp[World.cell?,hb',<-hu]
  ·obtain⟨u,hu,hp,_⟩:=key i j hi hj;simpa[hu]using hp
  ·obtain⟨u,hu,_,hd⟩:=key i j hi hj;simpa[hu]using hd d' he
theorem akK (hS:∀d m,S.mp d=some m->S.len d=0/\S.size d=0)(h:Hp S w0 N blk g al w){c:Nat}{d:D}{v:Value}{M':Nat->Prop}(hb:blk c=some (.map d))(hg:g c=some v)(hn:∀b,dY v=some b->¬M' b):
  dA S M' w d v:=by
 intro w' hs;obtain⟨v',hv',m,b,es,n,hm,hf,rfl,_,hh,he⟩:=h.dE c _ hb;rw[hg]at hv';injection hv' with hv'
 subst hv';obtain⟨h1,h2⟩:=hS _ _ hm;exact .mp d m _ hm h1 h2 ⟨hf, .inr ⟨b,es,n,rfl,(hs b (tZ hh) (hn b rfl)).trans hh,he⟩⟩
theorem L6 {bk:Option (Bk D)}{d:D}(h:rwD bk=some d):hot bk=true:=by
 unfold rwD at h;split at h<;>first | rfl | cases h
theorem ag6 (hS:jf S)(h:Hp S w0 N blk g al w){c:Nat}{d:D}{v:Value}{M':Nat->Prop}(hb:rwD (blk c)=some d)(hg:g c=some v)(hM:∀b,M' b->aT N blk g b)(hn:∀b,dY v=some b->¬M' b):
  dA S M' w d v:=by
 unfold rwD at hb;split at hb
 ·rename_i e d' hc;injection hb with hb
  subst hb;exact MP h hc hg hM hn
 ·rename_i d' hc;injection hb with hb
  subst hb;exact akK (fun d m hm=>⟨(hS.Ac d m hm).1,(hS.Ac d m hm).2.1⟩) h hc hg hn
 ·cases hb
def yw (g gc':Nat->Option Value)(ids:List Nat)(fr:Nat):Nat->Option Value:=fun l=>
 match g l with
 | some u=>some u
 | none=>if fr<=l/\l < fr+64 then gc' (ids.length+(l - fr))else none
theorem BQ {gc':Nat->Option Value}:More g (yw g gc' ids fr):=fun l v hl=>by simp[yw,hl]
structure Back (blk blk':Nat->Option (Bk D))(tab:Nat->Option (Bk D))(ids jA:List Nat)(fr:Nat)(fz:Bool):Prop where
 b1:∀l∈ids,blk' l=(tab (jg ids l)).map (Bk.ren (backTo ids fr))
 b2:∀j,j < 64->blk' (fr+j)=(tab (ids.length+j)).map (Bk.ren (backTo ids fr))
 b3:∀l∈jA,fz=true->(∃d,rwD (blk l)=some d/\blk' l=some (.xw d))\/(hot (blk l)=false/\blk' l=blk l)
 b4:∀l,l∉ids->(fz=true->l∉jA)->¬(fr<=l/\l < fr+64)->blk' l=blk l
theorem Hp.back (hS:jf S)(h:Hp S w0 N blk g al w){dE:List (Bk D)}{tab:Nat->Option (Bk D)}{gc':Nat->Option Value}{fz:Bool}(hfr:∀n,fr<=n->n < fr+64->¬al n)(hn:ids.Nodup)(hg:uM blk ids=some dE)(hv:∀l∈jA,l∉ids)
  (hm:More (gc g ids) gc') (hc:Hp S ⟨w,Xc blk g ids⟩ (Nc N blk g ids jA) (tab) gc' (fun _=>True) w') (hb:Back blk blk' tab ids jA fr fz)
  (aJ6:∀i,(tab i).isSome=true->i < ids.length+64) (hrefs:∀i bk,tab i=some bk->∀l∈bk.refs,(tab l).isSome=true) (hfz:∀i bk,tab i=some bk->bk.nz=true->fz=true):
  Hp S w0 N blk' (yw g gc' ids fr) (fun n=>al n\/(fr<=n/\n < fr+64)) w'/\Keeps (aT N blk g) w (aT N blk' (yw g gc' ids fr)) w'/\
   (fz=true->∀b,aT N blk' (yw g gc' ids fr) b->aT (Nc N blk g ids jA) (tab) gc' b)/\
   ∀i,(tab i).isSome=true->∀u,gc' i=some u->yw g gc' ids fr (backTo ids fr i)=some u:=by
 obtain⟨hlen,hat⟩:=qo hg;have aII:∀l∈ids,∃u,g l=some u:=fun l hl=>by
  obtain⟨bk,hbk,_⟩:=hat _ l (sK hl);obtain⟨v,hv,_⟩:=h.dE l bk hbk;exact⟨v,hv⟩
 have glt:∀l u,g l=some u->¬(fr<=l/\l < fr+64):=fun l u hl hle=>hfr l hle.1 hle.2 (h.al l u hl)
 have aIH:∀l,fr<=l->l < fr+64->g l=none:=fun l hl hl2=>by
  cases e:g l with
  | none=>rfl
  | some u=>exact absurd ⟨hl,hl2⟩ (glt l u e)
 have gb:∀i,(tab i).isSome=true->∀u,gc' i=some u->yw g gc' ids fr (backTo ids fr i)=some u:=by
  intro i hi u hu;unfold backTo;by_cases hlt:i < ids.length
  ·rw[mi qb6];have hl:ids[i]? =some (ids.getD i 0):=by simp[List.getD,hlt]
   obtain⟨u0,hu0⟩:=aII _ (Qbt hl);have:gc' i=some u0:=hm i u0 (by unfold gc;rw[hl];exact hu0);rw[this]at hu;injection hu with hu
   subst hu;exact BQ _ _ hu0
  ·rw[lL qb6];have:=aJ6 i hi;simp only[yw,aIH (fr+(i - ids.length)) au au];rw[mi au];have e:ids.length+(fr+(i - ids.length) - fr)=i:=by omega
   rw[e];exact hu
 have from':∀l bk,blk' l=some bk->(∃i ry,tab i=some ry/\bk=ry.ren (backTo ids fr)/\l=backTo ids fr i)\/
   (l∉ids/\¬(fr<=l/\l < fr+64)/\blk l=some bk/\(hot (some bk)=true->fz=true->l∉jA))\/(fz=true/\l∈jA/\∃d,rwD (blk l)=some d/\bk= .xw d):=by
  intro l bk hl;by_cases h1:l∈ids
  ·rw[hb.b1 l h1]at hl;obtain⟨ry,q1,rfl⟩:=Qcr.1 hl;refine .inl ⟨_,ry,q1,rfl,?_⟩;unfold backTo;have:=sK h1;have hlt:=(Qa6.1 this).1;rw[mi qb6];simp[List.getD,this]
  ·by_cases h2:fr<=l/\l < fr+64
   ·obtain⟨j,rfl⟩:∃j,l=fr+j:=⟨l - fr,by omega⟩;rw[hb.b2 j au]at hl;obtain⟨ry,q1,rfl⟩:=Qcr.1 hl;refine .inl ⟨_,ry,q1,rfl,?_⟩;unfold backTo;rw[lL (by simp[Hu])];omega
   ·by_cases h3:fz=true/\l∈jA
    ·rcases hb.b3 l h3.2 h3.1 with⟨d,q1,q2⟩ | ⟨q1,q2⟩
     ·rw[q2]at hl;injection hl with hl
      exact .inr (.inr ⟨h3.1,h3.2,d,q1,hl.symm⟩)
     ·rw[q2]at hl;obtain⟨u,hu,_⟩:=h.dE l bk hl;exact .inr (.inl ⟨h1,glt l u hu,hl,fun hh=>by rw[hl]at q1;rw[q1]at hh;cases hh⟩)
    ·have q:=hb.b4 l h1 (fun e hm=>h3 ⟨e,hm⟩) h2;rw[q]at hl;obtain⟨u,hu,_⟩:=h.dE l bk hl;exact .inr (.inl ⟨h1,glt l u hu,hl,fun _ e hm=>h3 ⟨e,hm⟩⟩)
 have WZ:∀(f:Nat->Nat) (bk:Bk D),hot (some (bk.ren f))=hot (some bk):=fun f bk=>by cases bk<;>rfl
 have left:∀i bk v b,tab i=some bk->hot (some bk)=true->gc' i=some v->dY v=some b->b < w'.heap.size/\(w.heap.size<=b\/Xc blk g ids b):=by
  intro i bk v b h1 h2 h3 h4;exact hc.mine (by rw[h1];exact h2) h3 h4
 have xm:∀b,Xc blk g ids b->aT N blk g b:=fun b ⟨l,v,h1,h2,h3,h4⟩=> .inr ⟨l,v,h1,h3,h4⟩
 have aBM:∀b,Xc blk g ids b->w0.Mine b:=fun b ⟨l,v,h1,h2,h3,h4⟩=>(h.mine h1 h3 h4).2
 have avU:∀l v b,hot (blk l)=true->l∉ids->g l=some v->dY v=some b->¬Xc blk g ids b:=by
  rintro l v b h1 h2 h3 h4 ⟨l',v',q1,q2,q3,q4⟩;have:=h.sep l l' v v' b h1 q1 h3 q3 h4 q4;subst this;exact h2 q2
 have hsame:∀b,b < w.heap.size->¬Xc blk g ids b->w'.heap[b]? =w.heap[b]? :=fun b h1 h2=>hc.below.block b h1 h2
 have gold:∀l,¬(fr<=l/\l < fr+64)->yw g gc' ids fr l=g l:=fun l hl=>by
  unfold yw;cases e:g l with
  | some u=>rfl
  | none=>simp[hl]
 have aKw:∀l bk,blk l=some bk->∃v,g l=some v:=fun l bk hl=>by obtain⟨v,hv,_⟩:=h.dE l bk hl;exact⟨v,hv⟩
 have WX:∀i bk,tab i=some bk->∃v,gc' i=some v/\yw g gc' ids fr (backTo ids fr i)=some v:=fun i bk hi=>by
  obtain⟨v,hv,_⟩:=hc.dE i bk hi;exact⟨v,hv,gb i (by rw[hi];rfl) v hv⟩
 have hk:Keeps (aT N blk g) w (aT N blk' (yw g gc' ids fr)) w':=by
  refine⟨hc.below.size,fun b hlt hmb=>⟨?_,hsame b hlt fun q=>hmb (xm b q)⟩⟩;rintro(hnb | ⟨l,v,h1,h2,h3⟩)
  ·exact hmb (.inl hnb)
  ·obtain⟨bk,hbk,hh⟩:=jK h1;rcases from' l bk hbk with⟨i,ry,q1,rfl,rfl⟩ | ⟨q1,q2,q3,_⟩ | ⟨_,_,d,_,rfl⟩
   ·obtain⟨v0,e1,e2⟩:=WX i ry q1;rw[h2]at e2;injection e2 with e2
    subst e2;rw[WZ]at hh;rcases(left i ry v b q1 hh e1 h3).2 with q | q
    ·omega
    ·exact hmb (xm b q)
   ·rw[gold l q2]at h2;exact hmb (.inr ⟨l,v,by rw[q3];exact hh,h2,h3⟩)
   ·simp[hot]at hh
 have hsub:fz=true->∀b,aT N blk' (yw g gc' ids fr) b->aT (Nc N blk g ids jA) (tab) gc' b:=by
  rintro hz b (hnb | ⟨l,v,h1,h2,h3⟩)
  ·exact .inl (.inl hnb)
  ·obtain⟨bk,hbk,hh⟩:=jK h1;rcases from' l bk hbk with⟨i,ry,q1,rfl,rfl⟩ | ⟨q1,q2,q3,q4⟩ | ⟨_,_,d,_,rfl⟩
   ·obtain⟨v0,e1,e2⟩:=WX i ry q1;rw[h2]at e2;injection e2 with e2
    subst e2;rw[WZ]at hh;exact .inr ⟨i,v,by rw[q1];exact hh,e1,h3⟩
   ·rw[gold l q2]at h2;exact .inl (.inr ⟨l,v,by rw[q3];exact hh,q1,q4 hh hz,h2,h3⟩)
   ·simp[hot]at hh
 refine⟨⟨⟨hc.below.os.trans h.below.os,hc.below.tape.trans h.below.tape,hc.below.output.trans h.below.output,zO h.below.size hc.below.size,fun k hk' hx=> ?_⟩,h.hN,fun l bk hl=> ?_,?_,?_,?_,h.gl.keep hk⟩,hk,hsub,gb⟩
 ·refine(hsame k (Qck hk' h.below.size) fun q=> ?_).trans (h.below.block k hk' hx);rcases aBM k q with q | q
  ·omega
  ·exact hx q
 ·rcases from' l bk hl with⟨i,ry,q1,rfl,rfl⟩ | ⟨q1,q2,q3,q4⟩ | ⟨hz,hlv,d,q,rfl⟩
  ·obtain⟨v,e1,hok⟩:=hc.dE i ry q1;refine⟨v,gb i (by rw[q1];rfl) v e1,hok.ren (fun l' hl' u hu=>gb l' (hrefs i ry q1 l' hl') u hu) (fun hd=>hsub (hfz i ry q1 hd)) (fun hh b hbv=> ?_)⟩;rcases(left i ry v b q1 hh e1 hbv).2 with q | q
   ·exact .inl (zO h.below.size q)
   ·exact aBM b q
  ·obtain⟨v,hv0,hok⟩:=h.dE l bk q3;refine⟨v,by rw[gold l q2];exact hv0,hok.keep hk BQ fun hh b hbv=> ?_⟩;have hhl:hot (blk l)=true:=by rw[q3];exact hh
   exact hsame b (h.mine hhl hv0 hbv).1 (avU l v b hhl q1 hv0 hbv)
  ·have hq:=L6 q;obtain⟨bkq,hbq,_⟩:=jK hq;obtain⟨v,hv0,_⟩:=h.dE l _ hbq;refine⟨v,BQ _ _ hv0,?_⟩;have hd0:dA S (fun b=>aT N blk g b/\dY v≠some b) w d v:=ag6 hS h q hv0 (fun b hb=>hb.1) (fun b hb hb'=>hb'.2 hb);refine hd0.keep ⟨hc.below.size,fun b hlt hmb=>⟨fun hb'=> ?_,hsame b hlt fun hx=> ?_⟩⟩
   ·
    have hmem:=hsub hz b hb';by_cases hvb:dY v=some b
    ·rcases hmem with(hnb | ⟨l',v',r1,r2,r3,r4,r5⟩) | ⟨i,v',r1,r2,r3⟩
     ·exact h.agh hq hv0 hvb hnb
     ·have:=h.sep l l' v v' b hq r1 hv0 r4 hvb r5;subst this;exact r3 hlv
     ·obtain⟨bk,hbk,hh⟩:=jK r1;rcases(left i bk v' b hbk hh r2 r3).2 with r | r
      ·omega
      ·exact avU l v b hq (hv l hlv) hv0 hvb r
    ·exact hmb ⟨by
      rcases hmem with(hnb | ⟨l',v',r1,r2,r3,r4,r5⟩) | ⟨i,v',r1,r2,r3⟩
      ·exact .inl hnb
      ·exact .inr ⟨l',v',r1,r4,r5⟩
      ·obtain⟨bk,hbk,hh⟩:=jK r1;rcases(left i bk v' b hbk hh r2 r3).2 with r | r
       ·omega
       ·exact xm b r,hvb⟩
   ·by_cases hvb:dY v=some b
    ·exact avU l v b hq (hv l hlv) hv0 hvb hx
    ·exact hmb ⟨xm b hx,hvb⟩
 ·intro l l' v v' b h1 h2 h3 h4 h5 h6;obtain⟨bk,hbk,hh⟩:=jK h1;obtain⟨bk',hbk',hh'⟩:=jK h2;rcases from' l bk hbk with⟨i,ry,q1,rfl,rfl⟩ | ⟨q1,q2,q3,q4⟩ | ⟨_,_,d,_,rfl⟩
  ·obtain⟨v0,e1,e2⟩:=WX i ry q1;rw[h3]at e2;injection e2 with e2
   subst e2;rw[WZ]at hh;rcases from' l' bk' hbk' with⟨i',ai3,q1',rfl,rfl⟩ | ⟨q1',q2',q3',q4'⟩ | ⟨_,_,d,_,rfl⟩
   ·obtain⟨v0',e1',e2'⟩:=WX i' ai3 q1';rw[h4]at e2';injection e2' with e2'
    subst e2';rw[WZ]at hh';rw[hc.sep i i' v v' b (by rw[q1];exact hh) (by rw[q1'];exact hh') e1 e1' h5 h6]
   ·rw[gold l' q2']at h4;have hhl:hot (blk l')=true:=by rw[q3'];exact hh'
    rcases(left i ry v b q1 hh e1 h5).2 with q | q
    ·have:=(h.mine hhl h4 h6).1;omega
    ·exact absurd q (avU l' v' b hhl q1' h4 h6)
   ·simp[hot]at hh'
  ·rw[gold l q2]at h3;have hhl:hot (blk l)=true:=by rw[q3];exact hh
   rcases from' l' bk' hbk' with⟨i',ai3,q1',rfl,rfl⟩ | ⟨q1',q2',q3',q4'⟩ | ⟨_,_,d,_,rfl⟩
   ·obtain⟨v0',e1',e2'⟩:=WX i' ai3 q1';rw[h4]at e2';injection e2' with e2'
    subst e2';rw[WZ]at hh';rcases(left i' ai3 v' b q1' hh' e1' h6).2 with q | q
    ·have:=(h.mine hhl h3 h5).1;omega
    ·exact absurd q (avU l v b hhl q1 h3 h5)
   ·rw[gold l' q2']at h4;exact h.sep l l' v v' b hhl (by rw[q3'];exact hh') h3 h4 h5 h6
   ·simp[hot]at hh'
  ·simp[hot]at hh
 ·intro n u hn;unfold yw at hn;split at hn
  ·rename_i u' hu';exact .inl (h.al n u' hu')
  ·split at hn
   ·rename_i q;exact .inr q
   ·cases hn
 ·intro n u hn;unfold yw at hn;split at hn
  ·rename_i u' hu';injection hn with hn;subst hn;exact h.refs n _ hu'
  ·split at hn
   ·exact hc.refs _ _ hn
   ·cases hn
end
end Go.Vc
namespace Go.Vc
open Go.RowKit
section
variable {D:Type}{P:Program}{S:Sh D}{T:TypeId->Option Ty}{Γ:FuncId->Option (Ct D)}{M M' N:Nat->Prop}{w w':World}{w0:Bs}{g g':Nat->Option Value}{blk blk':Nat->Option (Bk D)}{al:Nat->Prop}
 {a:Act} {o:Oper} {K:Act->World->Prop} {Q:Exit->Act->World->Prop} {slot:Nat->Sl D} {out:Out D} {fr:Nat} {ids jA:List Nat}
theorem aD9 {i n:Nat}(h:n<=i):Nat.blt i n=false:=by
 cases e:Nat.blt i n with
 | false=>rfl
 | true=>
  have:i < n:=Hu▸e;omega
theorem x8 {α:Type}{k:Nat}:∀{kv:List (Nat×α)} {f:Nat->α},(∀v,(k,v)∉kv)->lg f kv k=f k
 | [],_,_=>rfl
 | (k0,v0)::r,f,h=>by
  show lg (upd f k0 v0) r k=f k
  rw[x8 fun v hv=>h v (Qb3 _ hv)];exact bP _ _ _ _ (by rintro rfl;exact h v0 qa2)
theorem QH {α:Type}{k:Nat}{v:α}:∀{kv:List (Nat×α)} {f:Nat->α},(k,v)∈kv->(∀v',(k,v')∈kv->v'=v)->lg f kv k=v
 | [],_,h,_=>by simp at h
 | (k0,v0)::r,f,h,hu=>by
  show lg (upd f k0 v0) r k=v
  by_cases hr:∃v',(k,v')∈r
  ·obtain⟨v',hv'⟩:=hr;have:=hu v' (Qb3 _ hv');subst this;exact QH hv' fun v'' h''=>hu v'' (Qb3 _ h'')
  ·rw[x8 fun v' hv'=>hr ⟨v',hv'⟩];rcases xI.1 h with h | h
   ·injection h with h1 h2
    subst h1 h2;exact upd_same _ _ _
   ·exact absurd ⟨v,h⟩ hr
theorem r_:∀{l:List (Nat×Bk D)} {i:Nat} {bk:Bk D},jP l i=some bk->(i,bk)∈l
 | [],i,bk,h=>by simp[jP]at h
 | (k,v)::r,i,bk,h=>by
  unfold jP at h;split at h
  ·rename_i he;injection h with h
   rw[<-Qa he,h];simp
  ·exact Qb3 _ (r_ h)
theorem Vu:∀{l:List (Nat×Bk D)} {i:Nat} {bk:Bk D},nodupB l=true->(i,bk)∈l->jP l i=some bk
 | [],i,bk,_,h=>by simp at h
 | (k,v)::r,i,bk,hn,h=>by
  simp only[nodupB,jR,Qbr,Qcp]at hn;unfold jP;rcases xI.1 h with h | h
  ·injection h with h1 h2
   subst h1 h2;rw[mi qa2]
  ·have hne:Nat.beq k i=false:=by
    have:=hn.1 _ h;simp only[Qc8]at this;cases e:Nat.beq k i with
    | false=>rfl
    | true=>
     have:=Qa e;subst this;simp at*
   rw[hne];exact Vu hn.2 h
theorem aan {l:List (Nat×Bk D)}{i:Nat}(h:i∈l.map (·.1)):(jP l i).isSome=true:=by
 induction l with
 | nil=>simp at h
 | cons p r ih=>
  obtain⟨k,v⟩:=p;unfold jP;split
  ·rfl
  ·rename_i he;simp only[DT,xI]at h;rcases h with rfl | h
   ·simp at he
   ·exact ih h
theorem Je {k:Nat}:∀{l:List (Nat×Bk D)},RJ k l=true->∀i bk,(i,bk)∈l->i < k+64
 | [],_,i,bk,h=>by simp at h
 | (j,v)::r,hf,i,bk,h=>by
  simp only[RJ,jR]at hf;rcases xI.1 h with h | h
  ·injection h with h1 h2
   subst h1;simpa[Hu]using hf.1
  ·exact Je hf.2 i bk h
theorem iy.ren {f:Nat->Nat}:∀{xs:List (Sl D)} {vs:List Value},iy S M w g xs vs->(∀l∈xs.flatMap Sl.refs,∀u,g l=some u->g' (f l)=some u)->iy S M w g' (xs.map (Sl.ren f)) vs
 | [],[],_,_=>trivial
 | x::xs,v::vs,h,hf=>⟨h.1.ren (fun l hl=>hf l qci) (fun _ _ hb=>hb),iy.ren h.2 (fun l hl=>hf l qb7)⟩
theorem Lf.SG {f h:Nat->Nat}{x:Lf D}(hx:∀l∈x.refs,h (f l)=l):(x.ren f).ren h=x:=by
 cases x with
 | ptr l o=>simp only[Lf.ren];rw[hx l qb3]
 | own l=>simp only[Lf.ren];rw[hx l qb3]
 | opt l i j sz=>simp only[Lf.ren];rw[hx l qb3]
 | part l i j sz f=>simp only[Lf.ren];rw[hx l qb3]
 | fn g caps=>
  simp only[Lf.ren,Qc2];have:caps.map (h∘f)=caps:=by
   have:=Qbs (l:=caps) (f:=h∘f) (g:=id) fun l hl=>hx l hl
   simpa using this
  rw[this]
 | _=>rfl
theorem Bk.SG {f h:Nat->Nat}{bk:Bk D}(hx:∀l∈bk.refs,h (f l)=l):(bk.ren f).ren h=bk:=by
 cases bk with
 | cells cs=>
  simp only[Bk.ren,Qc2];have:cs.map (Lf.ren h∘Lf.ren f)=cs:=by
   have:=Qbs (l:=cs) (f:=Lf.ren h∘Lf.ren f) (g:=id) fun x hx'=>Lf.SG fun l hl=>hx l (wW.2 ⟨x,hx',hl⟩)
   simpa using this
  rw[this]
 | row e d=>rfl
 | xw d=>rfl
 | iter s p=>rfl
 | map kvs=>rfl
 | tc t cs=>
  simp only[Bk.ren,Qc2];have:cs.map (Lf.ren h∘Lf.ren f)=cs:=by
   have:=Qbs (l:=cs) (f:=Lf.ren h∘Lf.ren f) (g:=id) fun x hx'=>Lf.SG fun l hl=>hx l (wW.2 ⟨x,hx',hl⟩)
   simpa using this
  rw[this]
theorem ard {l:Nat}(h:l∈ids):backTo ids fr (jg ids l)=l:=by
 unfold backTo;have:=sK h;have hlt:=(Qa6.1 this).1;rw[mi qb6];simp[List.getD,this]
theorem wX {f:FuncId}{ct:Ct D}{args:List (Sl D)}{vals:List Value}(hS:jf S)(hok:fV P S f ct)(h:Hp S w0 N blk g al w)(hfr:∀n,fr<=n->n < fr+64->¬al n)
  (hargs:∀ids dE,uM blk ids=some dE->(∀l∈jA,l∉ids)->iy S (aT (Nc N blk g ids jA) (kF (dE.map (Bk.ren (jg ids)))) (gc g ids)) w g args vals)
  (hvl:∀l∈jA,∃u,g l=some u) (hvr:∀l∈jA,(∃d,rwD (blk l)=some d)\/hot (blk l)=false\/l∈args.flatMap Sl.refs) (hout:BC ct blk fr args jA=some out) (hp:mF out.pre):
  Calls P f vals.toArray w fun e w'=>∃v g',e= .returned v/\More g g'/\Keeps (aT N blk g) w (aT N (lg blk out.blks) g') w'/\Hp S w0 N (lg blk out.blks) g' (fun n=>al n\/(fr<=n/\n < fr+64)) w'/\
   out.val.Rel S (aT N (lg blk out.blks) g') w' g' v:=by
 unfold BC at hout;generalize XT:reach blk 3 (mr [] (args.flatMap Sl.refs))=ids at hout;dsimp only at hout;have hnd:ids.Nodup:=by rw[<-XT];exact E5 3 _ (qH _ _ Qc9)
 split at hout
 ·cases hout
 ·rename_i dE hg;split at hout
  ·rename_i hc;simp only[jR,Qbr,Qcp]at hc;obtain⟨⟨c1,c2⟩,c3⟩:=hc;have c1:=sQ c1;have c2:∀bk∈dE,∀l∈bk.refs,l∈ids:=fun bk hbk l hl=>sQ c2 l (wW.2 ⟨bk,hbk,hl⟩)
   have hv:∀l∈jA,l∉ids:=fun l hl hm=>c3 l hl (g_.2 hm)
   split at hout
   ·rename_i p r post keep hct;split at hout
    ·rename_i hq;simp only[jR]at hq;obtain⟨⟨⟨⟨⟨k1,k2⟩,k3⟩,k4⟩,k5⟩,k6⟩:=hq;have k6:∀i∈keep,i < ids.length/\i∉post.map (·.1):=fun i hi=>by
      have:=Nv.1 k6 i hi;simp only[jR,Qbr]at this;refine⟨by simpa[Hu]using this.1,fun hm=> ?_⟩;rw[g_.2 hm]at this;simp at this
     have hlen:(dE.map (Bk.ren (jg ids))).length=ids.length:=by rw[Qbj];exact(qo hg).1
     have O0:∀i,i∉keep->vI post keep (dE.map (Bk.ren (jg ids))) i=jP post i:=fun i hi=>by
      unfold vI;cases hlk:jP post i with
      | some bk=>rfl
      | none=>
       have:rO i keep=false:=by
        cases hm:rO i keep with
        | false=>rfl
        | true=>exact absurd (g_.1 hm) hi
       simp[this]
     have amo:∀i,i∈keep->vI post keep (dE.map (Bk.ren (jg ids))) i=(dE.map (Bk.ren (jg ids)))[i]? :=fun i hi=>by
      unfold vI;have:jP post i=none:=by
       cases hlk:jP post i with
       | none=>rfl
       | some bk=>exact absurd (zI.2 ⟨_,r_ hlk,rfl⟩) (k6 i hi).2
      rw[this,g_.2 hi];rfl
     have avX:∀i,i∈post.map (·.1)++keep->(vI post keep (dE.map (Bk.ren (jg ids))) i).isSome=true:=fun i hi=>by
      by_cases hk:i∈keep
      ·rw[amo i hk];have:=(k6 i hk).1;rw[<-hlen]at this;rw[Xh this];rfl
      ·rw[O0 i hk];rcases rW.1 hi with q | q
       ·exact aan q
       ·exact absurd q hk
     injection hout with hout
     have hpre:mF p:=by subst hout;exact hp
     have hl:=h.lend hnd hg c2 hv (jA:=jA);have hrel:=(hargs ids dE hg hv).ren (g':=gc g ids) (f:=jg ids) (fun l hl u hu=>by rw[abl (c1 l hl)];exact hu);refine(hok.calls _ _ _ w vals _ _ p r post keep hl hrel hct hpre).mono ?_;rintro e w' ⟨v,gc',rfl,hm,hc',hr⟩;have glt:∀l u,g l=some u->¬(fr<=l/\l < fr+64):=fun l u hl hle=>hfr l hle.1 hle.2 (h.al l u hl)
     have blt:∀l bk,blk l=some bk->¬(fr<=l/\l < fr+64):=fun l bk hl=>by obtain⟨u,hu,_⟩:=h.dE l bk hl;exact glt l u hu
     have aAf:∀l∈ids,¬(fr<=l/\l < fr+64):=fun l hl=>by
      obtain⟨bk,hbk,_⟩:=(qo hg).2 _ l (sK hl);exact blt l bk hbk
     let fz:Bool:=r.nz || post.any (fun q=>q.2.nz) || keep.any (fun i=>as8 (dE.map (Bk.ren (jg ids))) i)
     have inA:∀l x,(l,x)∈((ids.filter fun l=> !rO (jg ids l) keep).map fun l=>(l,(jP post (jg ids l)).map (Bk.ren (backTo ids fr))))->l∈ids/\jg ids l∉keep/\x=(jP post (jg ids l)).map (Bk.ren (backTo ids fr)):=by
      intro l x hx;obtain⟨l',hl',he⟩:=zI.1 hx;injection he with e1 e2
      subst e1;obtain⟨q1,q2⟩:=R_.1 hl';refine⟨q1,fun hm=> ?_,e2.symm⟩;rw[g_.2 hm]at q2;simp at q2
     have inB:∀l x,(l,x)∈((post.filter fun q=> !Nat.blt q.1 ids.length).map fun q=>(backTo ids fr q.1,some (q.2.ren (backTo ids fr))))->∃i bk,(i,bk)∈post/\ids.length<=i/\i < ids.length+64/\l=fr+(i - ids.length)/\x=some (bk.ren (backTo ids fr)):=by
      intro l x hx;obtain⟨⟨i,bk⟩,hq,he⟩:=zI.1 hx;obtain⟨hmem,hge⟩:=R_.1 hq;injection he with e1 e2
      have hge:¬i < ids.length:=fun hlt=>by
       rw[show Nat.blt i ids.length=true from Hu▸hlt]at hge;simp at hge
      refine⟨i,bk,hmem,by omega,Je k1 i bk hmem,?_,e2.symm⟩;rw[<-e1];simp only[backTo];rw[lL (by simpa[Hu]using hge)]
     have inC:∀l x,(l,x)∈(if fz then jA.filterMap (jm blk)else([]:List (Nat×Option (Bk D))))->fz=true/\l∈jA/\∃d,rwD (blk l)=some d/\x=some (.xw d):=by
      intro l x hx;by_cases hz:fz=true
      ·rw[mi hz]at hx;obtain⟨l',hl',he⟩:=Qde.1 hx;unfold jm at he;split at he
       ·rename_i d hrow;injection he with he
        injection he with e1 e2
        subst e1;exact⟨hz,hl',d,hrow,e2.symm⟩
       ·cases he
      ·rw[lL hz]at hx;simp at hx
     have amj:out.blks=((ids.filter fun l=> !rO (jg ids l) keep).map fun l=>(l,(jP post (jg ids l)).map (Bk.ren (backTo ids fr))))++(post.filter fun q=> !Nat.blt q.1 ids.length).map (fun q=>(backTo ids fr q.1,some (q.2.ren (backTo ids fr))))++
      (if fz then jA.filterMap (jm blk)else[]):=by
      rw[<-hout]
     have hall:∀l x,(l,x)∈out.blks->(l∈ids/\jg ids l∉keep/\x=(jP post (jg ids l)).map (Bk.ren (backTo ids fr)))\/(∃i bk,(i,bk)∈post/\ids.length<=i/\i < ids.length+64/\l=fr+(i - ids.length)/\x=some (bk.ren (backTo ids fr)))\/(fz=true/\l∈jA/\∃d,rwD (blk l)=some d/\x=some (.xw d)):=by
      intro l x hx;rw[amj]at hx;rcases rW.1 hx with hx | hx
      ·rcases rW.1 hx with hx | hx
       ·exact .inl (inA l x hx)
       ·exact .inr (.inl (inB l x hx))
      ·exact .inr (.inr (inC l x hx))
     have hB:Back blk (lg blk out.blks) (vI post keep (dE.map (Bk.ren (jg ids)))) ids jA fr fz:=by
      refine⟨fun l hl=> ?_,fun j hj=> ?_,fun l hl hz=> ?_,fun l h1 h2 h3=> ?_⟩
      ·by_cases hk:jg ids l∈keep
       ·obtain⟨bk,q1,q2⟩:=(qo hg).2 _ l (sK hl);rw[amo _ hk,Qbd,q2];simp only[IR];rw[Bk.SG fun r hr=>ard (c2 bk (Qbt q2) r hr),<-q1];refine x8 fun x hx=> ?_;rcases hall l x hx with⟨_,q,_⟩ | ⟨i,bk,q1,q2,q3,q4,_⟩ | ⟨_,q,_⟩
        ·exact q hk
        ·exact absurd (show fr<=l/\l < fr+64 by omega) (aAf l hl)
        ·exact absurd hl (hv l q)
       rw[O0 _ hk];refine QH (by
        rw[amj];refine Qb9 _ (Qb9 _ (zI.2 ⟨l,R_.2 ⟨hl,?_⟩,rfl⟩));cases hm:rO (jg ids l) keep with
        | false=>rfl
        | true=>exact absurd (g_.1 hm) hk) fun x hx=> ?_
       rcases hall l x hx with⟨_,_,q⟩ | ⟨i,bk,q1,q2,q3,q4,_⟩ | ⟨_,q,_⟩
       ·exact q
       ·exact absurd (show fr<=l/\l < fr+64 by omega) (aAf l hl)
       ·exact absurd hl (hv l q)
      ·rw[O0 _ fun hk=>by have:=(k6 _ hk).1;omega];cases hlk:jP post (ids.length+j)with
       | none=>
        rw[x8]
        ·cases hb:blk (fr+j)with
         | none=>rfl
         | some bk=>exact absurd ⟨Nat.le_add_right fr j,by omega⟩ (blt _ bk hb)
        ·intro x hx;rcases hall _ x hx with⟨q,_⟩ | ⟨i,bk,q1,q2,q3,q4,_⟩ | ⟨_,_,d,q,_⟩
         ·exact aAf _ q au
         ·have:i=ids.length+j:=by omega
          subst this;rw[Vu k2 q1]at hlk;cases hlk
         ·obtain⟨bkr,hbr,_⟩:=jK (L6 q);exact blt _ _ hbr au
       | some bk=>
        refine QH (by
         rw[amj];refine Qb9 _ (Qch _ (zI.2 ⟨(ids.length+j,bk),R_.2 ⟨r_ hlk,by rw[aD9 (Nat.le_add_right _ _)];rfl⟩,?_⟩));simp only[backTo,IR];rw[lL (by simp[Hu])];congr 1;omega) fun x hx=> ?_
        rcases hall _ x hx with⟨q,_⟩ | ⟨i,bk',q1,q2,q3,q4,q5⟩ | ⟨_,_,d,q,_⟩
        ·exact absurd au (aAf _ q)
        ·have:i=ids.length+j:=by omega
         subst this;rw[Vu k2 q1]at hlk;injection hlk with hlk
         rw[q5,hlk];rfl
        ·obtain⟨bkr,hbr,_⟩:=jK (L6 q);exact absurd au (blt _ _ hbr)
      ·by_cases hrow:∃d,rwD (blk l)=some d
       ·obtain⟨d,hrow⟩:=hrow;obtain⟨bkr,hbr,_⟩:=jK (L6 hrow);refine .inl ⟨d,hrow,QH (by
         rw[amj,mi hz];exact Qch _ (Qde.2 ⟨l,hl,by unfold jm;rw[hrow]⟩)) fun x hx=> ?_⟩
        rcases hall _ x hx with⟨q,_⟩ | ⟨i,bk',q1,q2,q3,q4,q5⟩ | ⟨_,_,d',q,q'⟩
        ·exact absurd q (hv l hl)
        ·exact absurd au (blt _ _ hbr)
        ·rw[hrow]at q;injection q with q
         rw[q',q]
       ·have hnot:hot (blk l)=false:=by
         rcases hvr l hl with q | q | q
         ·exact absurd q hrow
         ·exact q
         ·exact absurd (c1 l q) (hv l hl)
        by_cases hfl:fr<=l/\l < fr+64
        ·obtain⟨u,hu⟩:=hvl l hl;exact absurd hfl (glt l u hu)
        ·refine .inr ⟨hnot,x8 fun x hx=> ?_⟩;rcases hall _ x hx with⟨q,_⟩ | ⟨i,bk',q1,q2,q3,q4,q5⟩ | ⟨_,_,d',q,q'⟩
         ·exact hv l hl q
         ·exact hfl au
         ·exact hrow ⟨d',q⟩
      ·refine x8 fun x hx=> ?_;rcases hall _ x hx with⟨q,_⟩ | ⟨i,bk',q1,q2,q3,q4,q5⟩ | ⟨hz,q,_⟩
       ·exact h1 q
       ·exact h3 au
       ·exact h2 hz q
     obtain⟨g1,g2,g3,g4⟩:=h.back hS hfr hnd hg hv hm hc' hB (fun i hi=>by
       by_cases hk:i∈keep
       ·have:=(k6 i hk).1;omega
       rw[O0 i hk]at hi;obtain⟨bk,hbk⟩:=Qb7.1 hi;exact Je k1 i bk (r_ hbk))
      (fun i bk hbk l hl=>by
       by_cases hk:i∈keep
       ·rw[amo i hk]at hbk;exact avX l (sQ k5 l (wW.2 ⟨i,hk,by unfold aur;rw[hbk];exact hl⟩))
       ·rw[O0 i hk]at hbk;exact avX l (sQ k3 l (wW.2 ⟨(i,bk),r_ hbk,hl⟩)))
      (fun i bk hbk hd=>by
       simp only[fz,Qbx,Qct];by_cases hk:i∈keep
       ·rw[amo i hk]at hbk;exact .inr ⟨i,hk,by unfold as8;rw[hbk];exact hd⟩
       ·rw[O0 i hk]at hbk;exact .inl (.inr ⟨(i,bk),r_ hbk,hd⟩))
     refine⟨v,_,rfl,BQ,g2,g1,?_⟩;have:out.val=r.ren (backTo ids fr):=by rw[<-hout]
     rw[this];exact hr.ren (fun l hl u hu=>g4 l (avX l (sQ k4 l hl)) u hu) (fun hd=>g3 (by simp[fz,hd]))
    ·cases hout
   ·cases hout
  ·cases hout
end
end Go.Vc

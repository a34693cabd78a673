/- Own engine: Vdr, Vds, Vdg, Vdi, Vdj. -/
import Derived.Test.YtiibcbmenoaigaaGreatDoorEng2
import Derived.Lib.Overlaps
import Derived.Lib.AppendZerosOnto
namespace Go.Vc
open Go.RowKit
set_option linter.unusedVariables false
section
variable {D:Type}{P:Program}{S:Sh D}{T:TypeId->Option Ty}{M N:Nat->Prop}{w w':World}{w0:Bs}{g:Nat->Option Value}{blk:Nat->Option (Bk D)}{al:Nat->Prop}
 {a:Act} {o:Oper} {K:Act->World->Prop} {Q:Exit->Act->World->Prop} {slot:Nat->Sl D} {out:Out D} {fr:Nat}
theorem dat_sub (hS:ShOk S){d d':D}{av:Option Addr}{n cap l h:Nat}(hd:DatOk S M w d (.slice av n cap))(hs:S.sub d l h=some d')(h1:l<=h)(h2:h<=S.len d):DatOk S M w d' (sliced av l h cap (S.size d)):=by
 obtain⟨e1,e2,e3⟩:=hS.sub _ _ _ _ hs h1 h2
 intro w' hw
 have hr:=hd w' hw
 generalize hv:Value.slice av n cap=v at hr
 cases hr with
 | mp d m v hm hl hz h=>rcases h.2 with⟨e,_⟩ | ⟨_,_,_,e,_⟩<;>(rw[<-hv]at e;cases e)
 | mk d hno a' cap' U hcap hlen hcell hpl hdat=>
  injection hv with i1 i2 i3
  subst i1 i3
  show DRel S w' d' (.slice (if cap=l then av else av.map (·.add (l*S.size d))) (h - l) (cap - l))
  rw[<-e2]
  refine DRel.mk d' (hS.mpSub _ _ _ _ hs).2 _ (cap - l) (fun i j=>U (l+i) j) (by omega) (by omega) (fun i j hi hj=> ?_) (fun i j hi hj=> ?_) (fun i j x hi hj hx=> ?_)
  ·rw[e1]at hj
   obtain⟨ad,had,hc⟩:=hcell (l+i) j (by omega) hj
   have hne:¬cap=l:=by omega
   refine⟨ad.add (l*S.size d),by rw[if_neg hne,had];rfl,?_⟩
   rw[add_add',e1,<-hc,Nat.add_mul]
   congr 2
   omega
  ·rw[e1]at hj
   rw[e3 i j (by omega)]
   exact hpl (l+i) j (by omega) hj
  ·rw[e1]at hj
   rw[e3 i j (by omega)]at hx
   exact hdat (l+i) j x (by omega) hj hx
theorem bnd_rel {n:Nat}{lo:Option Operand}{l:Int}(hr:∀x:Operand,(opnd slot x).Rel S M w g (a.eval x))(h:bnd n (lo.map (opnd slot))=some l):(lo=none/\l=n)\/∃x k,lo=some x/\a.eval x= .int k l:=by
 cases lo with
 | none=>simp only[Option.map_none,bnd,Option.some.injEq]at h;exact .inl ⟨rfl,h.symm⟩
 | some x=>
  simp only[Option.map_some]at h
  unfold bnd at h
  split at h
  ·rename_i he;cases he
  ·rename_i k i he
   injection he with he
   injection h with h
   subst h
   have:=hr x
   rw[he]at this
   exact .inr ⟨x,k,rfl,this⟩
  ·cases h
theorem run_cut {t e:TypeId}{x:Operand}{lo hi:Option Operand}{sz s n cap:Nat}{av:Option Addr}{l hh:Int}(ho:o.op= .slice t x lo hi none)(hsl:P.underlying t=some (.slice e))(hsz:(sizeOf e).run P w= .ok sz w)(hv:a.eval x= .slice av n cap)(hcap:n<=cap)
  (hr:∀x:Operand,(opnd slot x).Rel S (Mset N blk g) w g (a.eval x)) (hl:bnd 0 (lo.map (opnd slot))=some l) (hhi:bnd n (hi.map (opnd slot))=some hh) (h1:sz=s) (p1:0<=l) (p2:l<=hh) (p3:hh<=n):
  (execOp a.eval o).run P w= .ok (.value (sliced av l.toNat hh.toNat cap s)) w:=by
 have hel2:P.elem t=e:=by simp[Program.elem,hsl]
 have hsl':P.underlying t=some (.slice (P.elem t)):=by rw[hel2];exact hsl
 have e1:(execOp a.eval o).run P w=((Instr.slice t (.slice av (n) cap) (lo.map a.eval) (hi.map a.eval) none).run P w).andThen fun v w=> .ok (.value v) w:=by
  simp[execOp,ho,hv,run_sliceAt_slice w t _ _ _ _ hsl']
 rw[e1]
 rcases bnd_rel hr hl with⟨rfl,hl0⟩ | ⟨xl,kl,rfl,hxl⟩<;>rcases bnd_rel hr hhi with⟨rfl,hh0⟩ | ⟨xh,kh,rfl,hxh⟩
 ·simp only[Option.map_none]
  rw[run_slice_all w t _ _ _ hsl',hel2,hsz]
  have:l.toNat=0:=by omega
  have h2:hh.toNat=n:=by omega
  rw[this,h2,<-h1];rfl
 ·simp only[Option.map_none,Option.map_some,hxh]
  rw[run_slice_h w t _ _ _ hsl' kh hh (by omega) (by omega),hel2,hsz]
  have:l.toNat=0:=by omega
  rw[this,<-h1];rfl
 ·simp only[Option.map_none,Option.map_some,hxl]
  rw[run_slice_l w t _ _ _ hsl' kl l (by omega) (by omega),hel2,hsz]
  have h2:hh.toNat=n:=by omega
  rw[h2,<-h1];rfl
 ·simp only[Option.map_some,hxl,hxh]
  rw[run_slice_lh w t _ _ _ hsl' kl kh l hh (by omega) (by omega) (by omega),hel2,hsz,<-h1]
  rfl
theorem sound_slice {t:TypeId}{x:Operand}{lo hi:Option Operand}(hS:ShOk S)(ho:o.op= .slice t x lo hi none)(hTy:∀t ty,T t=some ty->TyOk P t ty)(h:Hp S w0 N blk g al w)
  (hr:∀x:Operand,(opnd slot x).Rel S (Mset N blk g) w g (a.eval x)) (hout:xSlice T S blk t (opnd slot x) (lo.map (opnd slot)) (hi.map (opnd slot))=some out) (hp:preD out.pre) (hK:Post S w0 N blk g al w fr out o.dst a K):o.wp P a w K Q:=by
 have hx:=hr x
 unfold xSlice at hout
 split at hout
 ·cases hout
 ·rename_i ty hty
  split at hout
  ·cases hout
  ·rename_i l hl
   split at hout
   ·rename_i s hex
    rw[hex]at hx
    simp only[Sl.Rel,Sv.Rel,Lf.Rel]at hx
    obtain⟨hx,hxl⟩:=hx
    split at hout
    ·rename_i hk
     obtain⟨d,hd,hkd⟩:=ty_kind (hTy _ _ hty)
     have hk:ty.kind=3:=by simpa using hk
     rw[hk]at hkd
     have hd:P.underlying t=some .string:=by cases d<;>simp_all [kindOf]
     split at hout
     ·rename_i hh hhi
      injection hout with hout
      subst hout
      obtain⟨p1,p2,p3⟩:=hp
      have hsz:(ByteArray.mk s.toArray).size=s.length:=by show s.toArray.size=_;simp
      have hex2:(ByteArray.mk s.toArray).extract l.toNat hh.toNat=⟨((s.take hh.toNat).drop l.toNat).toArray⟩:=by
       apply ByteArray.ext
       rw[ByteArray.data_extract]
       apply Array.toList_inj.1
       simp[List.extract_eq_take_drop,List.drop_take]
      refine wp_same (v:= .string ⟨((s.take hh.toNat).drop l.toNat).toArray⟩) ?_ h hK rfl ⟨rfl,by rw[List.length_drop,List.length_take];omega⟩
      rw[<-hex2]
      have e1:(execOp a.eval o).run P w=((Instr.slice t (.string ⟨s.toArray⟩) (lo.map a.eval) (hi.map a.eval) none).run P w).andThen fun v w=> .ok (.value v) w:=by
       simp[execOp,ho,hx,run_sliceAt_string w t _ _ _ _ hd]
      rw[e1]
      rcases bnd_rel hr hl with⟨rfl,hl0⟩ | ⟨xl,kl,rfl,hxl⟩<;>rcases bnd_rel hr hhi with⟨rfl,hh0⟩ | ⟨xh,kh,rfl,hxh⟩
      ·simp only[Option.map_none]
       rw[run_slice_string_all w t _ hd]
       have:l.toNat=0:=by omega
       have h2:hh.toNat=(ByteArray.mk s.toArray).size:=by omega
       rw[this,h2];rfl
      ·simp only[Option.map_none,Option.map_some,hxh]
       rw[run_slice_string_h w t _ hd kh hh (by omega) (by omega)]
       have:l.toNat=0:=by omega
       rw[this];rfl
      ·simp only[Option.map_none,Option.map_some,hxl]
       rw[run_slice_string_l w t _ hd kl l (by omega) (by omega)]
       have h2:hh.toNat=(ByteArray.mk s.toArray).size:=by omega
       rw[h2];rfl
      ·simp only[Option.map_some,hxl,hxh]
       rw[run_slice_string w t _ kl kh l hh hd (by omega) (by omega) (by omega)]
       rfl
     ·cases hout
    ·cases hout
   ·rename_i d hex
    rw[hex]at hx
    split at hout
    ·cases hout
    ·rename_i e hel
     split at hout
     ·cases hout
     ·rename_i te hte
      have hsl:=ty_elem (hTy _ _ hty) hel
      have hsz:=ty_size (hTy _ _ hte) w
      split at hout
      ·rename_i hc
       simp only[Bool.and_eq_true]at hc
       have h1:=Nat.eq_of_beq_eq_true hc.1
       split at hout
       ·rename_i hh hhi
        split at hout
        ·rename_i d' hd'
         injection hout with hout
         subst hout
         obtain⟨p1,p2,p3⟩:=hp
         have hx:DatOk S (Mset N blk g) w d (a.eval x):=hx
         obtain⟨av,cap,hv,hcap⟩:=DatOk.slice' hx (hS.mpSub _ _ _ _ hd').1
         rw[hv]at hx
         have hres:=dat_sub hS hx hd' (by omega) (by omega)
         refine wp_same (v:=sliced av l.toNat hh.toNat cap (S.size d)) ?_ h hK rfl hres
         exact run_cut ho hsl hsz hv hcap hr hl hhi h1 p1 p2 p3
        ·cases hout
       ·cases hout
      ·cases hout
   ·rename_i q hex
    rw[hex]at hx
    have hx:g q=some (a.eval x):=hx
    split at hout
    ·cases hout
    ·rename_i e hel
     split at hout
     ·cases hout
     ·rename_i te hte
      have hsl:=ty_elem (hTy _ _ hty) hel
      have hsz:=ty_size (hTy _ _ hte) w
      split at hout
      ·rename_i e' d hb
       split at hout
       ·rename_i hh hhi
        injection hout with hout
        subst hout
        obtain⟨p1,p2,p3⟩:=hp
        obtain⟨v,hv',_,xs,⟨_,hown⟩,_⟩:=h.bks q _ hb
        rw[hx]at hv'
        injection hv' with hv'
        rcases hown with⟨h0,hn0⟩ | ⟨b,cap',cur,hvv,_,_,hnc,_⟩
        ·exact wp_same (v:=_) (run_cut (n:=S.len d) (cap:=0) ho hsl hsz (by rw[hv',h0,hn0]) (by omega) hr hl hhi rfl p1 p2 p3) h hK rfl ⟨none,S.len d,0,by rw[hx,hv',h0,hn0],rfl,by omega,by omega,rfl⟩
        ·exact wp_same (v:=_) (run_cut (n:=S.len d) ho hsl hsz (by rw[hv',hvv]) hnc hr hl hhi rfl p1 p2 p3) h hK rfl ⟨_,S.len d,_,by rw[hx,hv',hvv],rfl,by omega,by omega,rfl⟩
       ·cases hout
      ·cases hout
   ·cases hout
theorem Hp.retell (h:Hp S w0 N blk g al w){l:Nat}{bk bk':Bk D}{v:Value}(hl:blk l=some bk)(hh:hot (some bk)=true)(hh':hot (some bk')=true)(hg:g l=some v)
  (hok:BkOk S (Mset N blk g) w g w0 bk' v):Hp S w0 N (upd blk l (some bk')) g al w/\Keeps (Mset N blk g) w (Mset N (upd blk l (some bk')) g) w:=by
 have hsome:∀n,hot (upd blk l (some bk') n)=hot (blk n):=by
  intro n
  by_cases he:n=l
  ·subst he;simp[upd_same,hl,hh,hh']
  ·rw[upd_other _ _ _ _ he]
 have hM:Mset N (upd blk l (some bk')) g=Mset N blk g:=by
  funext c
  simp only[Mset,hsome]
 refine⟨⟨h.below,h.hN,?_,?_,h.al,h.refs,by rw[hM];exact h.gl⟩,hM▸Keeps.refl _ _⟩
 ·intro n bkn hn
  rw[hM]
  by_cases he:n=l
  ·subst he
   rw[upd_same]at hn
   injection hn with hn
   subst hn
   exact⟨v,hg,hok⟩
  ·rw[upd_other _ _ _ _ he]at hn
   exact h.bks n bkn hn
 ·intro a c va vc d ha hc
  rw[hsome]at ha hc
  exact h.sep a c va vc d ha hc
theorem one_of {v:Value}(h:v.oneCell'=true):one' v=true:=by cases v<;>simp_all [one',Value.oneCell']
theorem sound_copy {c:Call}{x y:Operand}(hS:ShOk S)(ho:o.op= .call c)(hc:c.callee= .builtin .copy)(hx':c.args.toList=[x,y])(hTy:∀t ty,T t=some ty->TyOk P t ty)(h:Hp S w0 N blk g al w)
  (hx:(opnd slot x).Rel S (Mset N blk g) w g (a.eval x)) (hy:(opnd slot y).Rel S (Mset N blk g) w g (a.eval y)) (hout:xCopy T S blk c.argTypes (opnd slot x) (opnd slot y)=some out) (hK:Post S w0 N blk g al w fr out o.dst a K):o.wp P a w K Q:=by
 unfold xCopy at hout
 split at hout
 ·rename_i t t' hts
  split at hout
  ·rename_i htt
   have htt:=Nat.eq_of_beq_eq_true htt
   subst htt
   split at hout
   ·cases hout
   ·rename_i ty hty
    split at hout
    ·cases hout
    ·rename_i e hel
     split at hout
     ·cases hout
     ·rename_i te hte
      have hsl:=ty_elem (hTy _ _ hty) hel
      have hsz:=ty_size (hTy _ _ hte) w
      split at hout
      ·rename_i l d2 hex hey
       rw[hex]at hx
       rw[hey]at hy
       have hx:g l=some (a.eval x):=hx
       have hy:DatOk S (Mset N blk g) w d2 (a.eval y):=hy
       split at hout
       ·rename_i e' d1 hb
        split at hout
        ·rename_i hcc
         simp only[Bool.and_eq_true]at hcc
         obtain⟨c1,c2,c3,c4⟩:=hcc
         have c1:=Nat.eq_of_beq_eq_true c1
         have c2:=Nat.eq_of_beq_eq_true c2
         have c3:=Nat.eq_of_beq_eq_true c3
         have c4:0 < te.size:=by simpa[Nat.blt_eq]using c4
         subst c1
         split at hout
         ·rename_i dp dq hdp hdq
          split at hout
          ·rename_i d hd
           injection hout with hout
           subst hout
           generalize hm:min (S.len d2) (S.len d1)=m at*
           have hm1:m<=S.len d1:=by omega
           have hm2:m<=S.len d2:=by omega
           obtain⟨p1,p2,p3⟩:=hS.sub _ _ _ _ hdp (by omega) hm2
           obtain⟨q1,q2,q3⟩:=hS.sub _ _ _ _ hdq hm1 (Nat.le_refl _)
           obtain⟨k1,k2,k3,k4,k5⟩:=hS.cat _ _ _ hd
           have hsd:S.size d=te.size:=by omega
           have hld:S.len d=S.len d1:=by omega
           obtain⟨av,cap,news,hv2,hnl,hnc,hnz,hone,hnr⟩:=dat_news (g:=g) hS hy (by omega)
           obtain⟨v,hv',hmine,xs,⟨hxl,hown⟩,hcell⟩:=h.bks l _ hb
           rw[hx]at hv'
           injection hv' with hv'
           have hload:(Builtin.firstCells te.size m (a.eval y)).run P w= .ok (news.take (m*te.size)).toArray w:=by
            rw[hv2]
            cases av with
            | none=>
             have h0:=hnz rfl
             have:m=0:=by omega
             subst this
             simp[Builtin.firstCells]
            | some ad=>
             have hlen:(news.take (m*te.size)).length=m*te.size:=by
              rw[List.length_take,hnl,<-c3]
              have:=Nat.mul_le_mul_right te.size hm2
              omega
             have:=run_loadCells_list (P:=P) w ad (news.take (m*te.size)) (fun j u hj=>hnc ad rfl j u (by
              rw[List.getElem?_take]at hj
              split at hj
              ·exact hj
              ·cases hj))
             rw[hlen]at this
             exact this
           have hlenOf:(Builtin.lenOf (a.eval y)).run P w= .ok (S.len d2) w:=by rw[hv2];simp[Builtin.lenOf]
           have hargs:c.args= #[x,y]:=by rw[<-Array.toList_inj];exact hx'
           have hat:c.argTypes= #[t,t]:=by rw[<-Array.toList_inj];exact hts
           rcases hown with⟨h0,hn0⟩ | ⟨b,cap',cur,hvv,_,hh,hnc',hcm,hcs,htake⟩
           ·
            have hm0:m=0:=by omega
            subst hm0
            have hdst:a.eval x= .slice none 0 0:=by rw[hv',h0]
            have hrun':(execOp a.eval o).run P w= .ok (.value (goInt 0)) w:=by
             simp[execOp,ho,resolve,hc,invoke,builtin,hargs,hat,Builtin.copy_,run_underlying hsl,hdst,hlenOf,hsz,hload]
            obtain⟨g1,g2⟩:=h.retell (bk':= .row e d) hb rfl rfl hx (by
             rw[hv']
             refine⟨⟨hmine.1,by rw[hld];exact hmine.2.1,by first | exact hS.mpNo (by omega) | (apply hS.mpCat;assumption)⟩,[],⟨by simp[hld,hn0], .inl ⟨h0,by omega⟩⟩,fun i j hi hj=>by omega⟩)
            exact wp_val hrun' (hK _ _ _ (More.refl _) g2 (g1.weaken fun _ h=> .inl h) rfl)
           ·have hdst:a.eval x= .slice (some ⟨b,0,none⟩) (S.len d1) cap':=by rw[hv',hvv]
            have hlt:(news.take (m*te.size)).length=m*te.size:=by
             rw[List.length_take,hnl,<-c3]
             have:=Nat.mul_le_mul_right te.size hm2
             omega
            have hms:m*te.size<=S.len d1*te.size:=Nat.mul_le_mul_right _ hm1
            have hcl:S.len d1*te.size<=cur.toList.length:=by rw[Array.length_toList,hcs,<-c2];exact Nat.mul_le_mul_right _ hnc'
            have hh':w.heap[b]? =some (.cells (cur.toList).toArray e (0,0)):=by simpa using hh
            obtain⟨w',hrun,hb',hn,hs,q1',q2',q3'⟩:=run_storeCells (P:=P) b e (news.take (m*te.size)) w cur.toList 0 0 hh' (by omega) (by
             rw[List.all_eq_true]
             intro u hu
             exact one_of (hone u (List.mem_of_mem_take hu)))
            have hrun':(execOp a.eval o).run P w= .ok (.value (goInt m)) w':=by
             have hmin:Nat.min (S.len d2) (S.len d1)=m:=hm
             simp[execOp,ho,resolve,hc,invoke,builtin,hargs,hat,Builtin.copy_,run_underlying hsl,hdst,hlenOf,hmin,hsz,hload,hrun]
            have hcurx:∀k,k < S.len d1*te.size->cur.toList[k]? =xs[k]? :=fun k hk=>by rw[<-htake,List.getElem?_take,if_pos (by rw[<-c2];exact hk)]
            simp only[Nat.add_zero,Nat.zero_add,List.take_zero,List.nil_append,hlt]at hb'
            obtain⟨g1,g2⟩:=h.write (bk':= .row e d) hb rfl rfl hx (by rw[hdst];rfl) q1' q2' q3' hs hn (fun hk=>by
             rw[hv']
             refine⟨⟨hmine.1,by rw[hld];exact hmine.2.1,by first | exact hS.mpNo (by omega) | (apply hS.mpCat;assumption)⟩,(news.take (m*te.size)++cur.toList.drop (m*te.size)).take (S.len d1*te.size),⟨?_, .inr ⟨b,cap',(news.take (m*te.size)++cur.toList.drop (m*te.size)).toArray,by rw[hvv,hld],Nat.zero_le _,hb',by omega,hcm,?_,by rw[hld,hsd]⟩⟩,fun i j hi hj=> ?_⟩
             ·rw[hld,hsd]
              rw[List.length_take,List.length_append,hlt,List.length_drop]
              omega
             ·rw[List.size_toArray,List.length_append,hlt,List.length_drop,hsd,c2,<-hcs,<-c2]
              have:=Array.length_toList (xs:=cur)
              omega
             ·rw[hsd]at hj⊢
              rw[hld]at hi
              have hlt':=row_lt hi hj
              rw[List.getElem?_take,if_pos hlt']
              have hdt:=hS.data d i j (by omega) (by omega)
              by_cases him:i < m
              ·obtain⟨u,hu,hru⟩:=hnr i j (by omega) (by omega)
               have hlm:=row_lt him hj
               refine⟨u,?_,hdt,?_⟩
               ·rw[List.getElem?_append_left (by omega),List.getElem?_take,if_pos hlm,c3]
                exact hu
               ·have e1:S.cell d i j=S.cell d2 i j:=by rw[k4 i j (by omega),p3 i j (by omega),Nat.zero_add]
                rw[e1]
                exact hru.keep hk (More.refl _)
              ·obtain⟨u,hu,_,hru⟩:=hcell i j hi (by omega)
               have hge:m*te.size<=i*te.size:=Nat.mul_le_mul_right _ (by omega)
               refine⟨u,?_,hdt,?_⟩
               ·rw[List.getElem?_append_right (by omega),hlt,List.getElem?_drop,show m*te.size+(i*te.size+j - m*te.size)=i*te.size+j by omega,hcurx _ hlt',c2]
                exact hu
               ·have e1:S.cell d i j=S.cell d1 i j:=by
                 have e2:=k5 (i - m) j (by omega)
                 rw[show S.len dp+(i - m)=i by omega]at e2
                 rw[e2,q3 (i - m) j (by omega),show m+(i - m)=i by omega]
                rw[e1]
                exact hru.keep hk (More.refl _))
            exact wp_val hrun' (hK _ _ _ (More.refl _) g2 (g1.weaken fun _ h=> .inl h) rfl)
          ·cases hout
         ·cases hout
        ·cases hout
       ·cases hout
      ·cases hout
  ·cases hout
 ·cases hout
end
end Go.Vc
namespace Go.Vc
open Go.RowKit
set_option linter.unusedVariables false
section
variable {P:Program}{w w':World}
structure InsWalk (P:Program)(f t ti ov s:Nat):Prop where
 shift:∀(b n c i m vb vc:Nat) (w w1 w2:World),i < n->0 < m->n+m<=c->c<=9223372036854775807->
  (∀lb cb x,(callFunc ov #[.slice (some ⟨vb,0,none⟩) m vc, .slice (some ⟨b,x,none⟩) lb cb]).run P w= .ok (.value (.bool false)) w)->
  (∀ty dc sc,(Builtin.copy_ #[t,t] ty #[.slice (some ⟨b,(i+m)*s,none⟩) (n+m - (i+m)) dc, .slice (some ⟨b,i*s,none⟩) (n+m - i) sc]).run P w.drew= .ok (goInt (n - i:Nat)) w1)->
  (∀ty dc,(Builtin.copy_ #[t,t] ty #[.slice (some ⟨b,i*s,none⟩) (n+m - i) dc, .slice (some ⟨vb,0,none⟩) m vc]).run P w1= .ok (goInt m) w2)->
  Calls P f #[.slice (some ⟨b,0,none⟩) n c, .int .i64 i, .slice (some ⟨vb,0,none⟩) m vc] w fun e w'=>e= .returned (.slice (some ⟨b,0,none⟩) (n+m) c)/\w'=w2
 grow:∀(b n c i m h cc vb vc:Nat) (w w1 w2 w3:World),i < n->0 < m->n<=c->c < n+m->n+m<=cc->n+m<=9223372036854775807->
  (∀ty,(Builtin.append_ #[t,ti] ty #[.slice (some ⟨b,0,none⟩) i c, .int .i64 ((n:Int)+m - i)]).run P w= .ok (.slice (some ⟨h,0,none⟩) (n+m) cc) w1)->
  (∀ty dc,(Builtin.copy_ #[t,t] ty #[.slice (some ⟨h,i*s,none⟩) (n+m - i) dc, .slice (some ⟨vb,0,none⟩) m vc]).run P w1= .ok (goInt m) w2)->
  (∀ty dc sc,(Builtin.copy_ #[t,t] ty #[.slice (some ⟨h,(i+m)*s,none⟩) (n+m - (i+m)) dc, .slice (some ⟨b,i*s,none⟩) (n - i) sc]).run P w2.drew= .ok (goInt (n - i:Nat)) w3)->
  Calls P f #[.slice (some ⟨b,0,none⟩) n c, .int .i64 i, .slice (some ⟨vb,0,none⟩) m vc] w fun e w'=>e= .returned (.slice (some ⟨h,0,none⟩) (n+m) cc)/\w'=w3
 atEnd:∀(a a2:Option Addr) (n c m c2:Nat) (v':Value) (w w':World),0 < m->n<=c->n<=9223372036854775807->
  (∀ty,(Builtin.append_ #[t,t] ty #[.slice a n c, .slice a2 m c2]).run P w= .ok v' w')->
  Calls P f #[.slice a n c, .int .i64 n, .slice a2 m c2] w fun e w1=>e= .returned v'/\w1=w'
end
section
variable {D:Type}{P:Program}{S:Sh D}
end
end Go.Vc
namespace Go.Vc
open Go.RowKit
set_option linter.unusedVariables false
section
variable {D:Type}{P:Program}{S:Sh D}{T:TypeId->Option Ty}{Γ:FuncId->Option (Ct D)}{M M' N:Nat->Prop}{w w':World}{w0:Bs}{g g':Nat->Option Value}{blk:Nat->Option (Bk D)}{al:Nat->Prop}
 {a:Act} {o:Oper} {K:Act->World->Prop} {Q:Exit->Act->World->Prop} {slot:Nat->Sl D} {out:Out D} {fr:Nat} {ids vids:List Nat}
theorem memB_iff {l:Nat}:∀{ids:List Nat},memB l ids=true ↔ l∈ids
 | []=>by simp[memB]
 | x::r=>by
  simp only[memB,Bool.or_eq_true,memB_iff,List.mem_cons]
  constructor
  ·rintro(h | h)
   ·exact .inl (Nat.eq_of_beq_eq_true h).symm
   ·exact .inr h
  ·rintro(rfl | h)
   ·exact .inl (by simp)
   ·exact .inr h
theorem addNew_nodup:∀(r ids:List Nat),ids.Nodup->(addNew ids r).Nodup
 | [],ids,h=>h
 | l::r,ids,h=>by
  unfold addNew
  refine addNew_nodup r _ ?_
  split
  ·exact h
  ·rename_i hn
   rw[List.nodup_append]
   refine⟨h,by simp,fun x hx y hy=> ?_⟩
   simp at hy
   subst hy
   rintro rfl
   exact hn (memB_iff.2 hx)
theorem reach_nodup:∀(n:Nat) (ids:List Nat),ids.Nodup->(reach blk n ids).Nodup
 | 0,ids,h=>h
 | n+1,ids,h=>reach_nodup n _ (addNew_nodup _ _ h)
theorem allIn_mem:∀{r:List Nat},allIn ids r=true->∀l∈r,l∈ids
 | [],_,l,hl=>by simp at hl
 | x::r,h,l,hl=>by
  simp only[allIn,Bool.and_eq_true]at h
  rcases List.mem_cons.1 hl with rfl | hl
  ·exact memB_iff.1 h.1
  ·exact allIn_mem h.2 l hl
theorem getAll_spec:∀{ids:List Nat} {bks:List (Bk D)},getAll blk ids=some bks->bks.length=ids.length/\∀(i l:Nat),ids[i]? =some l->∃bk,blk l=some bk/\bks[i]? =some bk
 | [],bks,h=>by simp[getAll]at h;subst h;simp
 | x::r,bks,h=>by
  unfold getAll at h
  split at h
  ·rename_i b bs hb hbs
   injection h with h
   subst h
   obtain⟨h1,h2⟩:=getAll_spec hbs
   refine⟨by simp[h1],fun i l hi=> ?_⟩
   cases i with
   | zero=>simp at hi;subst hi;exact⟨b,hb,rfl⟩
   | succ i=>exact h2 i l (by simpa using hi)
  ·cases h
theorem posIn_get:∀{ids:List Nat} {l:Nat},l∈ids->ids[posIn ids l]? =some l
 | [],l,h=>by simp at h
 | x::r,l,h=>by
  unfold posIn
  split
  ·rename_i he;rw[Nat.eq_of_beq_eq_true he];rfl
  ·rename_i he
   have:l∈r:=by
    rcases List.mem_cons.1 h with rfl | h
    ·simp at he
    ·exact h
   simpa using posIn_get this
theorem posIn_of (hn:ids.Nodup){i l:Nat}(h:ids[i]? =some l):posIn ids l=i:=by
 have hm:l∈ids:=List.mem_of_getElem? h
 have h2:=posIn_get hm
 have hi:=(List.getElem?_eq_some_iff.1 h).1
 have hj:=(List.getElem?_eq_some_iff.1 h2).1
 have e1:=(List.getElem?_eq_some_iff.1 h).2
 have e2:=(List.getElem?_eq_some_iff.1 h2).2
 exact(List.getElem_inj hn).1 (e2.trans e1.symm)
theorem caps_ren {f:Nat->Nat}:∀{caps:List Nat} {vs:List Value},(∀l∈caps,∀v,g l=some v->g' (f l)=some v)->caps.map g=vs.map some->(caps.map f).map g'=vs.map some
 | [],[],_,_=>rfl
 | c::caps,v::vs,hf,h=>by
  simp only[List.map_cons,List.cons.injEq]at h⊢
  exact⟨hf c (by simp) v h.1,caps_ren (fun l hl=>hf l (by simp[hl])) h.2⟩
 | [],_::_,_,h=>by simp at h
 | _::_,[],_,h=>by simp at h
theorem Lf.Rel.ren {f:Nat->Nat}{x:Lf D}{v:Value}(h:x.Rel S M w g v)(hf:∀l∈x.refs,∀u,g l=some u->g' (f l)=some u)(hM:x.hasDat=true->∀b,M' b->M b):(x.ren f).Rel S M' w g' v:=by
 cases x with
 | ptr l o=>obtain⟨b,h1,h2⟩:=h;exact⟨b,hf l (by simp[Lf.refs]) _ h1,h2⟩
 | own l=>exact hf l (by simp[Lf.refs]) _ h
 | opt l i j sz=>obtain⟨b,n,cap,h1,h2⟩:=h;exact⟨b,n,cap,hf l (by simp[Lf.refs]) _ h1,h2⟩
 | part l i j sz f=>obtain⟨a,n,cap,h1,h2⟩:=h;exact⟨a,n,cap,hf l (by simp[Lf.refs]) _ h1,h2⟩
 | glb i=>exact h
 | ifc x=>exact h
 | xt e=>exact Xt.Rel.mono h (hM rfl)
 | fn f' caps=>obtain⟨vs,h1,h2⟩:=h;exact⟨vs,h1,caps_ren hf h2⟩
 | dat d=>exact DatOk.mono h (hM rfl)
 | elt d i j=>obtain⟨a,n,cap,h1,h2⟩:=h;exact⟨a,n,cap,h1.mono (hM rfl),h2⟩
 | any=>trivial
 | unk p=>exact h
 | val x=>exact h
 | bool b=>exact h
 | int k n=>exact h
 | str s=>exact h
theorem LfsRel.ren {f:Nat->Nat}:∀{xs:List (Lf D)} {vs:List Value},LfsRel S M w g xs vs->(∀l∈xs.flatMap Lf.refs,∀u,g l=some u->g' (f l)=some u)->(xs.any Lf.hasDat=true->∀b,M' b->M b)->LfsRel S M' w g' (xs.map (Lf.ren f)) vs
 | [],[],_,_,_=>trivial
 | x::xs,v::vs,h,hf,hM=>by
  simp only[List.any_cons,Bool.or_eq_true]at hM
  exact⟨h.1.ren (fun l hl=>hf l (by simp[hl])) (fun hd=>hM (.inl hd)),LfsRel.ren h.2 (fun l hl=>hf l (by simp at hl⊢;exact .inr hl)) (fun hd=>hM (.inr hd))⟩
theorem Sv.Rel.ren {f:Nat->Nat}{x:Sv D}{v:Value}(h:x.Rel S M w g v)(hf:∀l∈x.refs,∀u,g l=some u->g' (f l)=some u)(hM:x.hasDat=true->∀b,M' b->M b):(x.ren f).Rel S M' w g' v:=by
 cases x with
 | lf x=>exact Lf.Rel.ren h hf hM
 | agg xs=>obtain⟨vs,h1,h2⟩:=h;exact⟨vs,h1,h2.ren hf hM⟩
theorem SvsRel.ren {f:Nat->Nat}:∀{xs:List (Sv D)} {vs:List Value},SvsRel S M w g xs vs->(∀l∈xs.flatMap Sv.refs,∀u,g l=some u->g' (f l)=some u)->(xs.any Sv.hasDat=true->∀b,M' b->M b)->SvsRel S M' w g' (xs.map (Sv.ren f)) vs
 | [],[],_,_,_=>trivial
 | x::xs,v::vs,h,hf,hM=>by
  simp only[List.any_cons,Bool.or_eq_true]at hM
  exact⟨h.1.ren (fun l hl=>hf l (by simp[hl])) (fun hd=>hM (.inl hd)),SvsRel.ren h.2 (fun l hl=>hf l (by simp at hl⊢;exact .inr hl)) (fun hd=>hM (.inr hd))⟩
theorem Sl.Rel.ren {f:Nat->Nat}{x:Sl D}{v:Value}(h:x.Rel S M w g v)(hf:∀l∈x.refs,∀u,g l=some u->g' (f l)=some u)(hM:x.hasDat=true->∀b,M' b->M b):(x.ren f).Rel S M' w g' v:=by
 cases x with
 | one x=>exact Sv.Rel.ren h hf hM
 | tup xs=>obtain⟨vs,h1,h2⟩:=h;exact⟨vs,h1,h2.ren hf hM⟩
theorem hot_ren {f:Nat->Nat}(x:Option (Bk D)):hot (x.map (Bk.ren f))=hot x:=by
 cases x with
 | none=>rfl
 | some bk=>cases bk<;>rfl
theorem isData_ren {f:Nat->Nat}{x:Lf D}(h:x.isData=true):x.ren f=x:=by cases x<;>first | rfl | simp[Lf.isData]at h
theorem isData_refs {x:Lf D}(h:x.isData=true):x.refs=[]:=by cases x<;>first | rfl | simp[Lf.isData]at h
theorem BkOk.ren {f:Nat->Nat}{B B':Bs}{bk:Bk D}{v:Value}(h:BkOk S M w g B bk v)(hf:∀l∈bk.refs,∀u,g l=some u->g' (f l)=some u)(hM:bk.hasDat=true->∀b,M' b->M b)
  (hB:hot (some bk)=true->∀b,blkOf v=some b->B'.Mine b):BkOk S M' w g' B' (bk.ren f) v:=by
 cases bk with
 | cells cs=>
  obtain⟨b,vs,t,rfl,_,hh,hr⟩:=h
  exact⟨b,vs,t,rfl,hB rfl b rfl,hh,hr.ren hf hM⟩
 | row e d=>
  obtain⟨hm,xs,hown,hc⟩:=h
  refine⟨⟨hB rfl,hm.2⟩,xs,hown,fun i j hi hj=> ?_⟩
  obtain⟨u,h1,h2,h3⟩:=hc i j hi hj
  have:=h3.ren (g':=g') (M':=M') (f:=f) (fun l hl=>by rw[isData_refs h2]at hl;simp at hl) (fun _=>hM rfl)
  rw[isData_ren h2]at this
  exact⟨u,h1,h2,this⟩
 | ice d=>exact DatOk.mono h (hM rfl)
 | iter s p=>
  obtain⟨hl,b,rfl,_,hh⟩:=h
  exact⟨hl,b,rfl,hB rfl b rfl,hh⟩
 | map d=>
  obtain⟨m,b,es,n,hm,hf,rfl,_,hh,hr⟩:=h
  exact⟨m,b,es,n,hm,hf,rfl,hB rfl b rfl,hh,hr⟩
 | tc t cs=>
  obtain⟨b,vs,rfl,_,hh,hr⟩:=h
  exact⟨b,vs,rfl,hB rfl b rfl,hh,hr.ren hf hM⟩
def Nc (N:Nat->Prop)(blk:Nat->Option (Bk D))(g:Nat->Option Value)(ids vids:List Nat):Nat->Prop:=
 fun b=>N b\/∃l v,hot (blk l)=true/\l∉ids/\l∉vids/\g l=some v/\blkOf v=some b
def Xc (blk:Nat->Option (Bk D))(g:Nat->Option Value)(ids:List Nat):Nat->Prop:=fun b=>∃l v,hot (blk l)=true/\l∈ids/\g l=some v/\blkOf v=some b
def gc (g:Nat->Option Value)(ids:List Nat):Nat->Option Value:=fun i=>(ids[i]?).bind g
theorem gc_pos {l:Nat}(h:l∈ids):gc g ids (posIn ids l)=g l:=by simp[gc,posIn_get h]
theorem Hp.mine (h:Hp S w0 N blk g al w){l b:Nat}{v:Value}(h1:hot (blk l)=true)(h2:g l=some v)(h3:blkOf v=some b):b < w.heap.size/\w0.Mine b:=by
 obtain⟨bk,_,hh,hok⟩:=h.at h1 h2
 exact hok.lt hh h3
theorem Hp.notN (h:Hp S w0 N blk g al w){l b:Nat}{v:Value}(h1:hot (blk l)=true)(h2:g l=some v)(h3:blkOf v=some b):¬N b:=fun hn=>by
 obtain⟨q1,q2⟩:=h.hN b hn
 rcases(h.mine h1 h2 h3).2 with q | q
 ·omega
 ·exact q2 q
theorem tab_at {bks:List (Bk D)}(hg:getAll blk ids=some bks){f:Nat->Nat}{i:Nat}{bk:Bk D}(h:tabOf (bks.map (Bk.ren f)) i=some bk):∃l bk0,ids[i]? =some l/\blk l=some bk0/\bk0∈bks/\bk=bk0.ren f:=by
 obtain⟨hl,hat⟩:=getAll_spec hg
 simp only[tabOf,List.getElem?_map,Option.map_eq_some_iff]at h
 obtain⟨bk0,h0,rfl⟩:=h
 have hi:i < ids.length:=by rw[<-hl];exact(List.getElem?_eq_some_iff.1 h0).1
 obtain⟨bk1,h1,h2⟩:=hat i ids[i] (List.getElem?_eq_getElem hi)
 rw[h0]at h2
 injection h2 with h2
 subst h2
 exact⟨ids[i],bk0,List.getElem?_eq_getElem hi,h1,List.mem_of_getElem? h0,rfl⟩
theorem mset_sub {bks:List (Bk D)}(hg:getAll blk ids=some bks){f:Nat->Nat}:∀b,Mset (Nc N blk g ids vids) (tabOf (bks.map (Bk.ren f))) (gc g ids) b->Mset N blk g b/\(N b\/∃l v,hot (blk l)=true/\l∉vids/\g l=some v/\blkOf v=some b\/l∈ids/\hot (blk l)=true/\g l=some v/\blkOf v=some b):=by
 rintro b ((hb | ⟨l,v,h1,h2,h3,h4,h5⟩) | ⟨i,v,h1,h2,h3⟩)
 ·exact⟨.inl hb, .inl hb⟩
 ·exact⟨.inr ⟨l,v,h1,h4,h5⟩, .inr ⟨l,v, .inl ⟨h1,h3,h4,h5⟩⟩⟩
 ·obtain⟨bk,hbk,hh⟩:=hot_some h1
  obtain⟨l,bk0,hl,hb0,_,rfl⟩:=tab_at hg hbk
  have hgl:g l=some v:=by simpa[gc,hl]using h2
  have hh0:hot (blk l)=true:=by rw[hb0];have:=hot_ren (f:=f) (some bk0);simp only[Option.map_some]at this;rw[<-this];exact hh
  exact⟨.inr ⟨l,v,hh0,hgl,h3⟩, .inr ⟨l,v, .inr ⟨List.mem_of_getElem? hl,hh0,hgl,h3⟩⟩⟩
theorem Hp.lend (h:Hp S w0 N blk g al w){bks:List (Bk D)}(hn:ids.Nodup)(hg:getAll blk ids=some bks)(hrefs:∀bk∈bks,∀l∈bk.refs,l∈ids)(hv:∀l∈vids,l∉ids):
  Hp S ⟨w,Xc blk g ids⟩ (Nc N blk g ids vids) (tabOf (bks.map (Bk.ren (posIn ids)))) (gc g ids) (· < (bks.map (Bk.ren (posIn ids))).length) w:=by
 obtain⟨hlen,hat⟩:=getAll_spec hg
 refine⟨BelowX.refl ⟨w,Xc blk g ids⟩,?_,?_,?_,?_,?_,h.gl.mono fun b hb=>(mset_sub hg b hb).1⟩
 ·rintro b (hb | ⟨l,v,h1,h2,h3,h4,h5⟩)
  ·refine⟨h.mlt (.inl hb),?_⟩
   rintro⟨l,v,h1,h2,h3,h4⟩
   exact h.notN h1 h3 h4 hb
  ·refine⟨h.mlt (.inr ⟨l,v,h1,h4,h5⟩),?_⟩
   rintro⟨l',v',q1,q2,q3,q4⟩
   have:=h.sep l l' v v' b h1 q1 h4 q3 h5 q4
   subst this
   exact h2 q2
 ·intro i bk hi
  obtain⟨l,bk0,hl,hb0,hmem,rfl⟩:=tab_at hg hi
  obtain⟨v,hv0,hok⟩:=h.bks l bk0 hb0
  refine⟨v,by simp[gc,hl,hv0],hok.ren (fun l' hl' u hu=> ?_) (fun _ b hb=>(mset_sub hg b hb).1) (fun hh b hb=> .inr ⟨l,v,by rw[hb0];exact hh,List.mem_of_getElem? hl,hv0,hb⟩)⟩
  rw[gc_pos (hrefs _ hmem l' hl')]
  exact hu
 ·intro i j vi vj b hi hj hgi hgj hbi hbj
  obtain⟨bki,hbki,hhi⟩:=hot_some hi
  obtain⟨bkj,hbkj,hhj⟩:=hot_some hj
  obtain⟨l,bk0,hl,hb0,_,rfl⟩:=tab_at hg hbki
  obtain⟨l',bk0',hl',hb0',_,rfl⟩:=tab_at hg hbkj
  have e1:hot (blk l)=true:=by rw[hb0];have:=hot_ren (f:=posIn ids) (some bk0);simp only[Option.map_some]at this;rw[<-this];exact hhi
  have e2:hot (blk l')=true:=by rw[hb0'];have:=hot_ren (f:=posIn ids) (some bk0');simp only[Option.map_some]at this;rw[<-this];exact hhj
  have:=h.sep l l' vi vj b e1 e2 (by simpa[gc,hl]using hgi) (by simpa[gc,hl']using hgj) hbi hbj
  subst this
  rw[<-posIn_of hn hl,<-posIn_of hn hl']
 ·intro i v hi
  simp only[gc]at hi
  cases hl:ids[i]? with
  | none=>rw[hl]at hi;cases hi
  | some l=>simp only[List.length_map,hlen];exact(List.getElem?_eq_some_iff.1 hl).1
 ·intro i v hi
  simp only[gc]at hi
  cases hl:ids[i]? with
  | none=>rw[hl]at hi;cases hi
  | some l=>rw[hl]at hi;exact h.refs l v hi
end
end Go.Vc
namespace Go.Vc
open Go.RowKit
set_option linter.unusedVariables false
section
variable {D:Type}{P:Program}{S:Sh D}{T:TypeId->Option Ty}{Γ:FuncId->Option (Ct D)}{M M' N:Nat->Prop}{w w':World}{w0:Bs}{g g':Nat->Option Value}{blk blk':Nat->Option (Bk D)}{al:Nat->Prop}
 {a:Act} {o:Oper} {K:Act->World->Prop} {Q:Exit->Act->World->Prop} {slot:Nat->Sl D} {out:Out D} {fr:Nat} {ids vids:List Nat}
theorem row_dat (h:Hp S w0 N blk g al w){c:Nat}{e:TypeId}{d:D}{v:Value}{M':Nat->Prop}(hb:blk c=some (.row e d))(hg:g c=some v)(hM:∀b,M' b->Mset N blk g b)(hn:∀b,blkOf v=some b->¬M' b):
  DatOk S M' w d v:=by
 intro w' hs
 obtain⟨v',hv',hm,xs,hown,hcell⟩:=h.bks c _ hb
 rw[hg]at hv'
 injection hv' with hv'
 subst hv'
 rcases hown.2 with⟨rfl,h0⟩ | ⟨b,cap,cur,rfl,_,hh,hnc,_,hcs,htake⟩
 ·have:=DRel.mk (S:=S) (w:=w') d hm.2.2 none 0 (fun _ _=> .bool false) (by omega) (by omega) (fun i j hi _=>by omega) (fun i j hi _=>by omega) (fun i j _ hi _=>by omega)
  rwa [h0]at this
 ·have hb':w'.heap[b]? =some (.cells cur e (0,0)):=(hs b (heap_lt hh) (hn b rfl)).trans hh
  have key:∀i j,i < S.len d->j < S.size d->∃u,cur[i*S.size d+j]? =some u/\Lf.plain (S.cell d i j) u/\∀d',S.cell d i j= .dat d'->DRel S w' d' u:=by
   intro i j hi hj
   obtain⟨u,hu,hda,hr⟩:=hcell i j hi hj
   have hlt:=row_lt hi hj
   have:cur[i*S.size d+j]? =some u:=by
    rw[<-htake,List.getElem?_take,if_pos hlt]at hu
    simpa using hu
   have hr':(S.cell d i j).Rel S M' w g u:=by
    have:=hr.ren (g':=g) (M':=M') (f:=fun x=>x) (fun l _ u hu=>hu) (fun _=>hM)
    rw[isData_ren hda]at this
    exact this
   exact⟨u,this,data_plain hda hr' hs⟩
  refine DRel.mk (S:=S) (w:=w') d hm.2.2 (some ⟨b,0,none⟩) cap (fun i j=>(cur[i*S.size d+j]?).getD undef) hnc hm.2.1 (fun i j hi hj=> ?_) (fun i j hi hj=> ?_) (fun i j d' hi hj he=> ?_)
  ·obtain⟨u,hu,_⟩:=key i j hi hj
   refine⟨_,rfl,?_⟩
   simp only[hu,Option.getD_some]
   rw[add_none,Nat.zero_add]
   simp[World.cell?,hb',<-hu]
  ·obtain⟨u,hu,hp,_⟩:=key i j hi hj
   simpa[hu]using hp
  ·obtain⟨u,hu,_,hd⟩:=key i j hi hj
   simpa[hu]using hd d' he
theorem map_dat (hS:∀d m,S.mp d=some m->S.len d=0/\S.size d=0)(h:Hp S w0 N blk g al w){c:Nat}{d:D}{v:Value}{M':Nat->Prop}(hb:blk c=some (.map d))(hg:g c=some v)(hn:∀b,blkOf v=some b->¬M' b):
  DatOk S M' w d v:=by
 intro w' hs
 obtain⟨v',hv',m,b,es,n,hm,hf,rfl,_,hh,he⟩:=h.bks c _ hb
 rw[hg]at hv'
 injection hv' with hv'
 subst hv'
 obtain⟨h1,h2⟩:=hS _ _ hm
 exact .mp d m _ hm h1 h2 ⟨hf, .inr ⟨b,es,n,rfl,(hs b (heap_lt hh) (hn b rfl)).trans hh,he⟩⟩
theorem rwD_hot {bk:Option (Bk D)}{d:D}(h:rwD bk=some d):hot bk=true:=by
 unfold rwD at h
 split at h<;>first | rfl | cases h
theorem rw_dat (hS:ShOk S)(h:Hp S w0 N blk g al w){c:Nat}{d:D}{v:Value}{M':Nat->Prop}(hb:rwD (blk c)=some d)(hg:g c=some v)(hM:∀b,M' b->Mset N blk g b)(hn:∀b,blkOf v=some b->¬M' b):
  DatOk S M' w d v:=by
 unfold rwD at hb
 split at hb
 ·rename_i e d' hc
  injection hb with hb
  subst hb
  exact row_dat h hc hg hM hn
 ·rename_i d' hc
  injection hb with hb
  subst hb
  exact map_dat (fun d m hm=>⟨(hS.mpSize d m hm).1,(hS.mpSize d m hm).2.1⟩) h hc hg hn
 ·cases hb
def gBack (g gc':Nat->Option Value)(ids:List Nat)(fr:Nat):Nat->Option Value:=fun l=>
 match g l with
 | some u=>some u
 | none=>if fr<=l/\l < fr+64 then gc' (ids.length+(l - fr))else none
theorem gBack_more {gc':Nat->Option Value}:More g (gBack g gc' ids fr):=fun l v hl=>by simp[gBack,hl]
structure Back (blk blk':Nat->Option (Bk D))(tab:Nat->Option (Bk D))(ids vids:List Nat)(fr:Nat)(fz:Bool):Prop where
 b1:∀l∈ids,blk' l=(tab (posIn ids l)).map (Bk.ren (backTo ids fr))
 b2:∀j,j < 64->blk' (fr+j)=(tab (ids.length+j)).map (Bk.ren (backTo ids fr))
 b3:∀l∈vids,fz=true->(∃d,rwD (blk l)=some d/\blk' l=some (.ice d))\/(hot (blk l)=false/\blk' l=blk l)
 b4:∀l,l∉ids->(fz=true->l∉vids)->¬(fr<=l/\l < fr+64)->blk' l=blk l
theorem Hp.back (hS:ShOk S)(h:Hp S w0 N blk g al w){bks:List (Bk D)}{tab:Nat->Option (Bk D)}{gc':Nat->Option Value}{fz:Bool}(hfr:∀n,fr<=n->n < fr+64->¬al n)(hn:ids.Nodup)(hg:getAll blk ids=some bks)(hv:∀l∈vids,l∉ids)
  (hm:More (gc g ids) gc') (hc:Hp S ⟨w,Xc blk g ids⟩ (Nc N blk g ids vids) (tab) gc' (fun _=>True) w') (hb:Back blk blk' tab ids vids fr fz)
  (hp64:∀i,(tab i).isSome=true->i < ids.length+64) (hrefs:∀i bk,tab i=some bk->∀l∈bk.refs,(tab l).isSome=true) (hfz:∀i bk,tab i=some bk->bk.hasDat=true->fz=true):
  Hp S w0 N blk' (gBack g gc' ids fr) (fun n=>al n\/(fr<=n/\n < fr+64)) w'/\Keeps (Mset N blk g) w (Mset N blk' (gBack g gc' ids fr)) w'/\
   (fz=true->∀b,Mset N blk' (gBack g gc' ids fr) b->Mset (Nc N blk g ids vids) (tab) gc' b)/\
   ∀i,(tab i).isSome=true->∀u,gc' i=some u->gBack g gc' ids fr (backTo ids fr i)=some u:=by
 obtain⟨hlen,hat⟩:=getAll_spec hg
 have gsome:∀l∈ids,∃u,g l=some u:=fun l hl=>by
  obtain⟨bk,hbk,_⟩:=hat _ l (posIn_get hl)
  obtain⟨v,hv,_⟩:=h.bks l bk hbk
  exact⟨v,hv⟩
 have glt:∀l u,g l=some u->¬(fr<=l/\l < fr+64):=fun l u hl hle=>hfr l hle.1 hle.2 (h.al l u hl)
 have gnone:∀l,fr<=l->l < fr+64->g l=none:=fun l hl hl2=>by
  cases e:g l with
  | none=>rfl
  | some u=>exact absurd ⟨hl,hl2⟩ (glt l u e)
 have gb:∀i,(tab i).isSome=true->∀u,gc' i=some u->gBack g gc' ids fr (backTo ids fr i)=some u:=by
  intro i hi u hu
  unfold backTo
  by_cases hlt:i < ids.length
  ·rw[if_pos (by simpa[Nat.blt_eq]using hlt)]
   have hl:ids[i]? =some (ids.getD i 0):=by simp[List.getD,hlt]
   obtain⟨u0,hu0⟩:=gsome _ (List.mem_of_getElem? hl)
   have:gc' i=some u0:=hm i u0 (by unfold gc;rw[hl];exact hu0)
   rw[this]at hu
   injection hu with hu
   subst hu
   exact gBack_more _ _ hu0
  ·rw[if_neg (by simpa[Nat.blt_eq]using hlt)]
   have:=hp64 i hi
   simp only[gBack,gnone (fr+(i - ids.length)) (by omega) (by omega)]
   rw[if_pos (by omega)]
   have e:ids.length+(fr+(i - ids.length) - fr)=i:=by omega
   rw[e]
   exact hu
 have from':∀l bk,blk' l=some bk->(∃i bk0,tab i=some bk0/\bk=bk0.ren (backTo ids fr)/\l=backTo ids fr i)\/
   (l∉ids/\¬(fr<=l/\l < fr+64)/\blk l=some bk/\(hot (some bk)=true->fz=true->l∉vids))\/(fz=true/\l∈vids/\∃d,rwD (blk l)=some d/\bk= .ice d):=by
  intro l bk hl
  by_cases h1:l∈ids
  ·rw[hb.b1 l h1]at hl
   obtain⟨bk0,q1,rfl⟩:=Option.map_eq_some_iff.1 hl
   refine .inl ⟨_,bk0,q1,rfl,?_⟩
   unfold backTo
   have:=posIn_get h1
   have hlt:=(List.getElem?_eq_some_iff.1 this).1
   rw[if_pos (by simpa[Nat.blt_eq]using hlt)]
   simp[List.getD,this]
  ·by_cases h2:fr<=l/\l < fr+64
   ·obtain⟨j,rfl⟩:∃j,l=fr+j:=⟨l - fr,by omega⟩
    rw[hb.b2 j (by omega)]at hl
    obtain⟨bk0,q1,rfl⟩:=Option.map_eq_some_iff.1 hl
    refine .inl ⟨_,bk0,q1,rfl,?_⟩
    unfold backTo
    rw[if_neg (by simp[Nat.blt_eq])]
    omega
   ·by_cases h3:fz=true/\l∈vids
    ·rcases hb.b3 l h3.2 h3.1 with⟨d,q1,q2⟩ | ⟨q1,q2⟩
     ·rw[q2]at hl
      injection hl with hl
      exact .inr (.inr ⟨h3.1,h3.2,d,q1,hl.symm⟩)
     ·rw[q2]at hl
      obtain⟨u,hu,_⟩:=h.bks l bk hl
      exact .inr (.inl ⟨h1,glt l u hu,hl,fun hh=>by rw[hl]at q1;rw[q1]at hh;cases hh⟩)
    ·have q:=hb.b4 l h1 (fun e hm=>h3 ⟨e,hm⟩) h2
     rw[q]at hl
     obtain⟨u,hu,_⟩:=h.bks l bk hl
     exact .inr (.inl ⟨h1,glt l u hu,hl,fun _ e hm=>h3 ⟨e,hm⟩⟩)
 have hotren:∀(f:Nat->Nat) (bk:Bk D),hot (some (bk.ren f))=hot (some bk):=fun f bk=>by cases bk<;>rfl
 have left:∀i bk v b,tab i=some bk->hot (some bk)=true->gc' i=some v->blkOf v=some b->b < w'.heap.size/\(w.heap.size<=b\/Xc blk g ids b):=by
  intro i bk v b h1 h2 h3 h4
  exact hc.mine (by rw[h1];exact h2) h3 h4
 have xm:∀b,Xc blk g ids b->Mset N blk g b:=fun b ⟨l,v,h1,h2,h3,h4⟩=> .inr ⟨l,v,h1,h3,h4⟩
 have xmine:∀b,Xc blk g ids b->w0.Mine b:=fun b ⟨l,v,h1,h2,h3,h4⟩=>(h.mine h1 h3 h4).2
 have notX:∀l v b,hot (blk l)=true->l∉ids->g l=some v->blkOf v=some b->¬Xc blk g ids b:=by
  rintro l v b h1 h2 h3 h4 ⟨l',v',q1,q2,q3,q4⟩
  have:=h.sep l l' v v' b h1 q1 h3 q3 h4 q4
  subst this
  exact h2 q2
 have hsame:∀b,b < w.heap.size->¬Xc blk g ids b->w'.heap[b]? =w.heap[b]? :=fun b h1 h2=>hc.below.block b h1 h2
 have gold:∀l,¬(fr<=l/\l < fr+64)->gBack g gc' ids fr l=g l:=fun l hl=>by
  unfold gBack
  cases e:g l with
  | some u=>rfl
  | none=>simp[hl]
 have ghot:∀l bk,blk l=some bk->∃v,g l=some v:=fun l bk hl=>by obtain⟨v,hv,_⟩:=h.bks l bk hl;exact⟨v,hv⟩
 have gcsome:∀i bk,tab i=some bk->∃v,gc' i=some v/\gBack g gc' ids fr (backTo ids fr i)=some v:=fun i bk hi=>by
  obtain⟨v,hv,_⟩:=hc.bks i bk hi
  exact⟨v,hv,gb i (by rw[hi];rfl) v hv⟩
 have hk:Keeps (Mset N blk g) w (Mset N blk' (gBack g gc' ids fr)) w':=by
  refine⟨hc.below.size,fun b hlt hmb=>⟨?_,hsame b hlt fun q=>hmb (xm b q)⟩⟩
  rintro(hnb | ⟨l,v,h1,h2,h3⟩)
  ·exact hmb (.inl hnb)
  ·obtain⟨bk,hbk,hh⟩:=hot_some h1
   rcases from' l bk hbk with⟨i,bk0,q1,rfl,rfl⟩ | ⟨q1,q2,q3,_⟩ | ⟨_,_,d,_,rfl⟩
   ·obtain⟨v0,e1,e2⟩:=gcsome i bk0 q1
    rw[h2]at e2
    injection e2 with e2
    subst e2
    rw[hotren]at hh
    rcases(left i bk0 v b q1 hh e1 h3).2 with q | q
    ·omega
    ·exact hmb (xm b q)
   ·rw[gold l q2]at h2
    exact hmb (.inr ⟨l,v,by rw[q3];exact hh,h2,h3⟩)
   ·simp[hot]at hh
 have hsub:fz=true->∀b,Mset N blk' (gBack g gc' ids fr) b->Mset (Nc N blk g ids vids) (tab) gc' b:=by
  rintro hz b (hnb | ⟨l,v,h1,h2,h3⟩)
  ·exact .inl (.inl hnb)
  ·obtain⟨bk,hbk,hh⟩:=hot_some h1
   rcases from' l bk hbk with⟨i,bk0,q1,rfl,rfl⟩ | ⟨q1,q2,q3,q4⟩ | ⟨_,_,d,_,rfl⟩
   ·obtain⟨v0,e1,e2⟩:=gcsome i bk0 q1
    rw[h2]at e2
    injection e2 with e2
    subst e2
    rw[hotren]at hh
    exact .inr ⟨i,v,by rw[q1];exact hh,e1,h3⟩
   ·rw[gold l q2]at h2
    exact .inl (.inr ⟨l,v,by rw[q3];exact hh,q1,q4 hh hz,h2,h3⟩)
   ·simp[hot]at hh
 refine⟨⟨⟨hc.below.os.trans h.below.os,hc.below.tape.trans h.below.tape,hc.below.output.trans h.below.output,Nat.le_trans h.below.size hc.below.size,fun k hk' hx=> ?_⟩,h.hN,fun l bk hl=> ?_,?_,?_,?_,h.gl.keep hk⟩,hk,hsub,gb⟩
 ·refine(hsame k (Nat.lt_of_lt_of_le hk' h.below.size) fun q=> ?_).trans (h.below.block k hk' hx)
  rcases xmine k q with q | q
  ·omega
  ·exact hx q
 ·rcases from' l bk hl with⟨i,bk0,q1,rfl,rfl⟩ | ⟨q1,q2,q3,q4⟩ | ⟨hz,hlv,d,q,rfl⟩
  ·obtain⟨v,e1,hok⟩:=hc.bks i bk0 q1
   refine⟨v,gb i (by rw[q1];rfl) v e1,hok.ren (fun l' hl' u hu=>gb l' (hrefs i bk0 q1 l' hl') u hu) (fun hd=>hsub (hfz i bk0 q1 hd)) (fun hh b hbv=> ?_)⟩
   rcases(left i bk0 v b q1 hh e1 hbv).2 with q | q
   ·exact .inl (Nat.le_trans h.below.size q)
   ·exact xmine b q
  ·obtain⟨v,hv0,hok⟩:=h.bks l bk q3
   refine⟨v,by rw[gold l q2];exact hv0,hok.keep hk gBack_more fun hh b hbv=> ?_⟩
   have hhl:hot (blk l)=true:=by rw[q3];exact hh
   exact hsame b (h.mine hhl hv0 hbv).1 (notX l v b hhl q1 hv0 hbv)
  ·have hq:=rwD_hot q
   obtain⟨bkq,hbq,_⟩:=hot_some hq
   obtain⟨v,hv0,_⟩:=h.bks l _ hbq
   refine⟨v,gBack_more _ _ hv0,?_⟩
   have hd0:DatOk S (fun b=>Mset N blk g b/\blkOf v≠some b) w d v:=rw_dat hS h q hv0 (fun b hb=>hb.1) (fun b hb hb'=>hb'.2 hb)
   refine hd0.keep ⟨hc.below.size,fun b hlt hmb=>⟨fun hb'=> ?_,hsame b hlt fun hx=> ?_⟩⟩
   ·
    have hmem:=hsub hz b hb'
    by_cases hvb:blkOf v=some b
    ·rcases hmem with(hnb | ⟨l',v',r1,r2,r3,r4,r5⟩) | ⟨i,v',r1,r2,r3⟩
     ·exact h.notN hq hv0 hvb hnb
     ·have:=h.sep l l' v v' b hq r1 hv0 r4 hvb r5
      subst this
      exact r3 hlv
     ·obtain⟨bk,hbk,hh⟩:=hot_some r1
      rcases(left i bk v' b hbk hh r2 r3).2 with r | r
      ·omega
      ·exact notX l v b hq (hv l hlv) hv0 hvb r
    ·exact hmb ⟨by
      rcases hmem with(hnb | ⟨l',v',r1,r2,r3,r4,r5⟩) | ⟨i,v',r1,r2,r3⟩
      ·exact .inl hnb
      ·exact .inr ⟨l',v',r1,r4,r5⟩
      ·obtain⟨bk,hbk,hh⟩:=hot_some r1
       rcases(left i bk v' b hbk hh r2 r3).2 with r | r
       ·omega
       ·exact xm b r,hvb⟩
   ·by_cases hvb:blkOf v=some b
    ·exact notX l v b hq (hv l hlv) hv0 hvb hx
    ·exact hmb ⟨xm b hx,hvb⟩
 ·intro l l' v v' b h1 h2 h3 h4 h5 h6
  obtain⟨bk,hbk,hh⟩:=hot_some h1
  obtain⟨bk',hbk',hh'⟩:=hot_some h2
  rcases from' l bk hbk with⟨i,bk0,q1,rfl,rfl⟩ | ⟨q1,q2,q3,q4⟩ | ⟨_,_,d,_,rfl⟩
  ·obtain⟨v0,e1,e2⟩:=gcsome i bk0 q1
   rw[h3]at e2
   injection e2 with e2
   subst e2
   rw[hotren]at hh
   rcases from' l' bk' hbk' with⟨i',bk0',q1',rfl,rfl⟩ | ⟨q1',q2',q3',q4'⟩ | ⟨_,_,d,_,rfl⟩
   ·obtain⟨v0',e1',e2'⟩:=gcsome i' bk0' q1'
    rw[h4]at e2'
    injection e2' with e2'
    subst e2'
    rw[hotren]at hh'
    rw[hc.sep i i' v v' b (by rw[q1];exact hh) (by rw[q1'];exact hh') e1 e1' h5 h6]
   ·rw[gold l' q2']at h4
    have hhl:hot (blk l')=true:=by rw[q3'];exact hh'
    rcases(left i bk0 v b q1 hh e1 h5).2 with q | q
    ·have:=(h.mine hhl h4 h6).1;omega
    ·exact absurd q (notX l' v' b hhl q1' h4 h6)
   ·simp[hot]at hh'
  ·rw[gold l q2]at h3
   have hhl:hot (blk l)=true:=by rw[q3];exact hh
   rcases from' l' bk' hbk' with⟨i',bk0',q1',rfl,rfl⟩ | ⟨q1',q2',q3',q4'⟩ | ⟨_,_,d,_,rfl⟩
   ·obtain⟨v0',e1',e2'⟩:=gcsome i' bk0' q1'
    rw[h4]at e2'
    injection e2' with e2'
    subst e2'
    rw[hotren]at hh'
    rcases(left i' bk0' v' b q1' hh' e1' h6).2 with q | q
    ·have:=(h.mine hhl h3 h5).1;omega
    ·exact absurd q (notX l v b hhl q1 h3 h5)
   ·rw[gold l' q2']at h4
    exact h.sep l l' v v' b hhl (by rw[q3'];exact hh') h3 h4 h5 h6
   ·simp[hot]at hh'
  ·simp[hot]at hh
 ·intro n u hn
  unfold gBack at hn
  split at hn
  ·rename_i u' hu';exact .inl (h.al n u' hu')
  ·split at hn
   ·rename_i q;exact .inr q
   ·cases hn
 ·intro n u hn
  unfold gBack at hn
  split at hn
  ·rename_i u' hu';injection hn with hn;subst hn;exact h.refs n _ hu'
  ·split at hn
   ·exact hc.refs _ _ hn
   ·cases hn
end
end Go.Vc
namespace Go.Vc
open Go.RowKit
set_option linter.unusedVariables false
section
variable {D:Type}{P:Program}{S:Sh D}{T:TypeId->Option Ty}{Γ:FuncId->Option (Ct D)}{M M' N:Nat->Prop}{w w':World}{w0:Bs}{g g':Nat->Option Value}{blk blk':Nat->Option (Bk D)}{al:Nat->Prop}
 {a:Act} {o:Oper} {K:Act->World->Prop} {Q:Exit->Act->World->Prop} {slot:Nat->Sl D} {out:Out D} {fr:Nat} {ids vids:List Nat}
theorem blt_no {i n:Nat}(h:n<=i):Nat.blt i n=false:=by
 cases e:Nat.blt i n with
 | false=>rfl
 | true=>
  have:i < n:=Nat.blt_eq▸e
  omega
theorem updL_off {α:Type}{k:Nat}:∀{kv:List (Nat×α)} {f:Nat->α},(∀v,(k,v)∉kv)->updL f kv k=f k
 | [],_,_=>rfl
 | (k0,v0)::r,f,h=>by
  show updL (upd f k0 v0) r k=f k
  rw[updL_off fun v hv=>h v (List.mem_cons_of_mem _ hv)]
  exact upd_other _ _ _ _ (by rintro rfl;exact h v0 (by simp))
theorem updL_at {α:Type}{k:Nat}{v:α}:∀{kv:List (Nat×α)} {f:Nat->α},(k,v)∈kv->(∀v',(k,v')∈kv->v'=v)->updL f kv k=v
 | [],_,h,_=>by simp at h
 | (k0,v0)::r,f,h,hu=>by
  show updL (upd f k0 v0) r k=v
  by_cases hr:∃v',(k,v')∈r
  ·obtain⟨v',hv'⟩:=hr
   have:=hu v' (List.mem_cons_of_mem _ hv')
   subst this
   exact updL_at hv' fun v'' h''=>hu v'' (List.mem_cons_of_mem _ h'')
  ·rw[updL_off fun v' hv'=>hr ⟨v',hv'⟩]
   rcases List.mem_cons.1 h with h | h
   ·injection h with h1 h2
    subst h1 h2
    exact upd_same _ _ _
   ·exact absurd ⟨v,h⟩ hr
theorem lookB_mem:∀{l:List (Nat×Bk D)} {i:Nat} {bk:Bk D},lookB l i=some bk->(i,bk)∈l
 | [],i,bk,h=>by simp[lookB]at h
 | (k,v)::r,i,bk,h=>by
  unfold lookB at h
  split at h
  ·rename_i he
   injection h with h
   rw[<-Nat.eq_of_beq_eq_true he,h]
   simp
  ·exact List.mem_cons_of_mem _ (lookB_mem h)
theorem lookB_of:∀{l:List (Nat×Bk D)} {i:Nat} {bk:Bk D},nodupB l=true->(i,bk)∈l->lookB l i=some bk
 | [],i,bk,_,h=>by simp at h
 | (k,v)::r,i,bk,hn,h=>by
  simp only[nodupB,Bool.and_eq_true,Bool.not_eq_true',List.any_eq_false]at hn
  unfold lookB
  rcases List.mem_cons.1 h with h | h
  ·injection h with h1 h2
   subst h1 h2
   rw[if_pos (by simp)]
  ·have hne:Nat.beq k i=false:=by
    have:=hn.1 _ h
    simp only[Bool.not_eq_true]at this
    cases e:Nat.beq k i with
    | false=>rfl
    | true=>
     have:=Nat.eq_of_beq_eq_true e
     subst this
     simp at*
   rw[hne]
   exact lookB_of hn.2 h
theorem lookB_isSome {l:List (Nat×Bk D)}{i:Nat}(h:i∈l.map (·.1)):(lookB l i).isSome=true:=by
 induction l with
 | nil=>simp at h
 | cons p r ih=>
  obtain⟨k,v⟩:=p
  unfold lookB
  split
  ·rfl
  ·rename_i he
   simp only[List.map_cons,List.mem_cons]at h
   rcases h with rfl | h
   ·simp at he
   ·exact ih h
theorem freshOk_lt {k:Nat}:∀{l:List (Nat×Bk D)},freshOk k l=true->∀i bk,(i,bk)∈l->i < k+64
 | [],_,i,bk,h=>by simp at h
 | (j,v)::r,hf,i,bk,h=>by
  simp only[freshOk,Bool.and_eq_true]at hf
  rcases List.mem_cons.1 h with h | h
  ·injection h with h1 h2
   subst h1
   simpa[Nat.blt_eq]using hf.1
  ·exact freshOk_lt hf.2 i bk h
theorem SlsRel.ren {f:Nat->Nat}:∀{xs:List (Sl D)} {vs:List Value},SlsRel S M w g xs vs->(∀l∈xs.flatMap Sl.refs,∀u,g l=some u->g' (f l)=some u)->SlsRel S M w g' (xs.map (Sl.ren f)) vs
 | [],[],_,_=>trivial
 | x::xs,v::vs,h,hf=>⟨h.1.ren (fun l hl=>hf l (by simp[hl])) (fun _ _ hb=>hb),SlsRel.ren h.2 (fun l hl=>hf l (by simp at hl⊢;exact .inr hl))⟩
theorem Lf.ren_ren {f h:Nat->Nat}{x:Lf D}(hx:∀l∈x.refs,h (f l)=l):(x.ren f).ren h=x:=by
 cases x with
 | ptr l o=>simp only[Lf.ren];rw[hx l (by simp[Lf.refs])]
 | own l=>simp only[Lf.ren];rw[hx l (by simp[Lf.refs])]
 | opt l i j sz=>simp only[Lf.ren];rw[hx l (by simp[Lf.refs])]
 | part l i j sz f=>simp only[Lf.ren];rw[hx l (by simp[Lf.refs])]
 | fn g caps=>
  simp only[Lf.ren,List.map_map]
  have:caps.map (h∘f)=caps:=by
   have:=List.map_congr_left (l:=caps) (f:=h∘f) (g:=id) fun l hl=>hx l hl
   simpa using this
  rw[this]
 | _=>rfl
theorem Bk.ren_ren {f h:Nat->Nat}{bk:Bk D}(hx:∀l∈bk.refs,h (f l)=l):(bk.ren f).ren h=bk:=by
 cases bk with
 | cells cs=>
  simp only[Bk.ren,List.map_map]
  have:cs.map (Lf.ren h∘Lf.ren f)=cs:=by
   have:=List.map_congr_left (l:=cs) (f:=Lf.ren h∘Lf.ren f) (g:=id) fun x hx'=>Lf.ren_ren fun l hl=>hx l (List.mem_flatMap.2 ⟨x,hx',hl⟩)
   simpa using this
  rw[this]
 | row e d=>rfl
 | ice d=>rfl
 | iter s p=>rfl
 | map kvs=>rfl
 | tc t cs=>
  simp only[Bk.ren,List.map_map]
  have:cs.map (Lf.ren h∘Lf.ren f)=cs:=by
   have:=List.map_congr_left (l:=cs) (f:=Lf.ren h∘Lf.ren f) (g:=id) fun x hx'=>Lf.ren_ren fun l hl=>hx l (List.mem_flatMap.2 ⟨x,hx',hl⟩)
   simpa using this
  rw[this]
theorem back_pos {l:Nat}(h:l∈ids):backTo ids fr (posIn ids l)=l:=by
 unfold backTo
 have:=posIn_get h
 have hlt:=(List.getElem?_eq_some_iff.1 this).1
 rw[if_pos (by simpa[Nat.blt_eq]using hlt)]
 simp[List.getD,this]
theorem callOn_sound {f:FuncId}{ct:Ct D}{args:List (Sl D)}{vals:List Value}(hS:ShOk S)(hok:CtOk P S f ct)(h:Hp S w0 N blk g al w)(hfr:∀n,fr<=n->n < fr+64->¬al n)
  (hargs:∀ids bks,getAll blk ids=some bks->(∀l∈vids,l∉ids)->SlsRel S (Mset (Nc N blk g ids vids) (tabOf (bks.map (Bk.ren (posIn ids)))) (gc g ids)) w g args vals)
  (hvl:∀l∈vids,∃u,g l=some u) (hvr:∀l∈vids,(∃d,rwD (blk l)=some d)\/hot (blk l)=false\/l∈args.flatMap Sl.refs) (hout:callOn ct blk fr args vids=some out) (hp:preD out.pre):
  Calls P f vals.toArray w fun e w'=>∃v g',e= .returned v/\More g g'/\Keeps (Mset N blk g) w (Mset N (updL blk out.blks) g') w'/\Hp S w0 N (updL blk out.blks) g' (fun n=>al n\/(fr<=n/\n < fr+64)) w'/\
   out.val.Rel S (Mset N (updL blk out.blks) g') w' g' v:=by
 unfold callOn at hout
 generalize hids:reach blk 3 (addNew [] (args.flatMap Sl.refs))=ids at hout
 dsimp only at hout
 have hnd:ids.Nodup:=by rw[<-hids];exact reach_nodup 3 _ (addNew_nodup _ _ List.nodup_nil)
 split at hout
 ·cases hout
 ·rename_i bks hg
  split at hout
  ·rename_i hc
   simp only[Bool.and_eq_true,Bool.not_eq_true',List.any_eq_false]at hc
   obtain⟨⟨c1,c2⟩,c3⟩:=hc
   have c1:=allIn_mem c1
   have c2:∀bk∈bks,∀l∈bk.refs,l∈ids:=fun bk hbk l hl=>allIn_mem c2 l (List.mem_flatMap.2 ⟨bk,hbk,hl⟩)
   have hv:∀l∈vids,l∉ids:=fun l hl hm=>c3 l hl (memB_iff.2 hm)
   split at hout
   ·rename_i p r post keep hct
    split at hout
    ·rename_i hq
     simp only[Bool.and_eq_true]at hq
     obtain⟨⟨⟨⟨⟨k1,k2⟩,k3⟩,k4⟩,k5⟩,k6⟩:=hq
     have k6:∀i∈keep,i < ids.length/\i∉post.map (·.1):=fun i hi=>by
      have:=List.all_eq_true.1 k6 i hi
      simp only[Bool.and_eq_true,Bool.not_eq_true']at this
      refine⟨by simpa[Nat.blt_eq]using this.1,fun hm=> ?_⟩
      rw[memB_iff.2 hm]at this
      simp at this
     have hlen:(bks.map (Bk.ren (posIn ids))).length=ids.length:=by rw[List.length_map];exact(getAll_spec hg).1
     have tabOff:∀i,i∉keep->tabK post keep (bks.map (Bk.ren (posIn ids))) i=lookB post i:=fun i hi=>by
      unfold tabK
      cases hlk:lookB post i with
      | some bk=>rfl
      | none=>
       have:memB i keep=false:=by
        cases hm:memB i keep with
        | false=>rfl
        | true=>exact absurd (memB_iff.1 hm) hi
       simp[this]
     have tabOn:∀i,i∈keep->tabK post keep (bks.map (Bk.ren (posIn ids))) i=(bks.map (Bk.ren (posIn ids)))[i]? :=fun i hi=>by
      unfold tabK
      have:lookB post i=none:=by
       cases hlk:lookB post i with
       | none=>rfl
       | some bk=>exact absurd (List.mem_map.2 ⟨_,lookB_mem hlk,rfl⟩) (k6 i hi).2
      rw[this,memB_iff.2 hi]
      rfl
     have tabIn:∀i,i∈post.map (·.1)++keep->(tabK post keep (bks.map (Bk.ren (posIn ids))) i).isSome=true:=fun i hi=>by
      by_cases hk:i∈keep
      ·rw[tabOn i hk]
       have:=(k6 i hk).1
       rw[<-hlen]at this
       rw[List.getElem?_eq_getElem this]
       rfl
      ·rw[tabOff i hk]
       rcases List.mem_append.1 hi with q | q
       ·exact lookB_isSome q
       ·exact absurd q hk
     injection hout with hout
     have hpre:preD p:=by subst hout;exact hp
     have hl:=h.lend hnd hg c2 hv (vids:=vids)
     have hrel:=(hargs ids bks hg hv).ren (g':=gc g ids) (f:=posIn ids) (fun l hl u hu=>by rw[gc_pos (c1 l hl)];exact hu)
     refine(hok.calls _ _ _ w vals _ _ p r post keep hl hrel hct hpre).mono ?_
     rintro e w' ⟨v,gc',rfl,hm,hc',hr⟩
     have glt:∀l u,g l=some u->¬(fr<=l/\l < fr+64):=fun l u hl hle=>hfr l hle.1 hle.2 (h.al l u hl)
     have blt:∀l bk,blk l=some bk->¬(fr<=l/\l < fr+64):=fun l bk hl=>by obtain⟨u,hu,_⟩:=h.bks l bk hl;exact glt l u hu
     have idlt:∀l∈ids,¬(fr<=l/\l < fr+64):=fun l hl=>by
      obtain⟨bk,hbk,_⟩:=(getAll_spec hg).2 _ l (posIn_get hl)
      exact blt l bk hbk
     let fz:Bool:=r.hasDat || post.any (fun q=>q.2.hasDat) || keep.any (fun i=>datAt (bks.map (Bk.ren (posIn ids))) i)
     have inA:∀l x,(l,x)∈((ids.filter fun l=> !memB (posIn ids l) keep).map fun l=>(l,(lookB post (posIn ids l)).map (Bk.ren (backTo ids fr))))->l∈ids/\posIn ids l∉keep/\x=(lookB post (posIn ids l)).map (Bk.ren (backTo ids fr)):=by
      intro l x hx
      obtain⟨l',hl',he⟩:=List.mem_map.1 hx
      injection he with e1 e2
      subst e1
      obtain⟨q1,q2⟩:=List.mem_filter.1 hl'
      refine⟨q1,fun hm=> ?_,e2.symm⟩
      rw[memB_iff.2 hm]at q2
      simp at q2
     have inB:∀l x,(l,x)∈((post.filter fun q=> !Nat.blt q.1 ids.length).map fun q=>(backTo ids fr q.1,some (q.2.ren (backTo ids fr))))->∃i bk,(i,bk)∈post/\ids.length<=i/\i < ids.length+64/\l=fr+(i - ids.length)/\x=some (bk.ren (backTo ids fr)):=by
      intro l x hx
      obtain⟨⟨i,bk⟩,hq,he⟩:=List.mem_map.1 hx
      obtain⟨hmem,hge⟩:=List.mem_filter.1 hq
      injection he with e1 e2
      have hge:¬i < ids.length:=fun hlt=>by
       rw[show Nat.blt i ids.length=true from Nat.blt_eq▸hlt]at hge
       simp at hge
      refine⟨i,bk,hmem,by omega,freshOk_lt k1 i bk hmem,?_,e2.symm⟩
      rw[<-e1]
      simp only[backTo]
      rw[if_neg (by simpa[Nat.blt_eq]using hge)]
     have inC:∀l x,(l,x)∈(if fz then vids.filterMap (iceOf blk)else([]:List (Nat×Option (Bk D))))->fz=true/\l∈vids/\∃d,rwD (blk l)=some d/\x=some (.ice d):=by
      intro l x hx
      by_cases hz:fz=true
      ·rw[if_pos hz]at hx
       obtain⟨l',hl',he⟩:=List.mem_filterMap.1 hx
       unfold iceOf at he
       split at he
       ·rename_i d hrow
        injection he with he
        injection he with e1 e2
        subst e1
        exact⟨hz,hl',d,hrow,e2.symm⟩
       ·cases he
      ·rw[if_neg hz]at hx
       simp at hx
     have hblks:out.blks=((ids.filter fun l=> !memB (posIn ids l) keep).map fun l=>(l,(lookB post (posIn ids l)).map (Bk.ren (backTo ids fr))))++(post.filter fun q=> !Nat.blt q.1 ids.length).map (fun q=>(backTo ids fr q.1,some (q.2.ren (backTo ids fr))))++
      (if fz then vids.filterMap (iceOf blk)else[]):=by
      rw[<-hout]
     have hall:∀l x,(l,x)∈out.blks->(l∈ids/\posIn ids l∉keep/\x=(lookB post (posIn ids l)).map (Bk.ren (backTo ids fr)))\/(∃i bk,(i,bk)∈post/\ids.length<=i/\i < ids.length+64/\l=fr+(i - ids.length)/\x=some (bk.ren (backTo ids fr)))\/(fz=true/\l∈vids/\∃d,rwD (blk l)=some d/\x=some (.ice d)):=by
      intro l x hx
      rw[hblks]at hx
      rcases List.mem_append.1 hx with hx | hx
      ·rcases List.mem_append.1 hx with hx | hx
       ·exact .inl (inA l x hx)
       ·exact .inr (.inl (inB l x hx))
      ·exact .inr (.inr (inC l x hx))
     have hB:Back blk (updL blk out.blks) (tabK post keep (bks.map (Bk.ren (posIn ids)))) ids vids fr fz:=by
      refine⟨fun l hl=> ?_,fun j hj=> ?_,fun l hl hz=> ?_,fun l h1 h2 h3=> ?_⟩
      ·by_cases hk:posIn ids l∈keep
       ·obtain⟨bk,q1,q2⟩:=(getAll_spec hg).2 _ l (posIn_get hl)
        rw[tabOn _ hk,List.getElem?_map,q2]
        simp only[Option.map_some]
        rw[Bk.ren_ren fun r hr=>back_pos (c2 bk (List.mem_of_getElem? q2) r hr),<-q1]
        refine updL_off fun x hx=> ?_
        rcases hall l x hx with⟨_,q,_⟩ | ⟨i,bk,q1,q2,q3,q4,_⟩ | ⟨_,q,_⟩
        ·exact q hk
        ·exact absurd (show fr<=l/\l < fr+64 by omega) (idlt l hl)
        ·exact absurd hl (hv l q)
       rw[tabOff _ hk]
       refine updL_at (by
        rw[hblks]
        refine List.mem_append_left _ (List.mem_append_left _ (List.mem_map.2 ⟨l,List.mem_filter.2 ⟨hl,?_⟩,rfl⟩))
        cases hm:memB (posIn ids l) keep with
        | false=>rfl
        | true=>exact absurd (memB_iff.1 hm) hk) fun x hx=> ?_
       rcases hall l x hx with⟨_,_,q⟩ | ⟨i,bk,q1,q2,q3,q4,_⟩ | ⟨_,q,_⟩
       ·exact q
       ·exact absurd (show fr<=l/\l < fr+64 by omega) (idlt l hl)
       ·exact absurd hl (hv l q)
      ·rw[tabOff _ fun hk=>by have:=(k6 _ hk).1;omega]
       cases hlk:lookB post (ids.length+j)with
       | none=>
        rw[updL_off]
        ·cases hb:blk (fr+j)with
         | none=>rfl
         | some bk=>exact absurd ⟨Nat.le_add_right fr j,by omega⟩ (blt _ bk hb)
        ·intro x hx
         rcases hall _ x hx with⟨q,_⟩ | ⟨i,bk,q1,q2,q3,q4,_⟩ | ⟨_,_,d,q,_⟩
         ·exact idlt _ q (by omega)
         ·have:i=ids.length+j:=by omega
          subst this
          rw[lookB_of k2 q1]at hlk
          cases hlk
         ·obtain⟨bkr,hbr,_⟩:=hot_some (rwD_hot q)
          exact blt _ _ hbr (by omega)
       | some bk=>
        refine updL_at (by
         rw[hblks]
         refine List.mem_append_left _ (List.mem_append_right _ (List.mem_map.2 ⟨(ids.length+j,bk),List.mem_filter.2 ⟨lookB_mem hlk,by rw[blt_no (Nat.le_add_right _ _)];rfl⟩,?_⟩))
         simp only[backTo,Option.map_some]
         rw[if_neg (by simp[Nat.blt_eq])]
         congr 1
         omega) fun x hx=> ?_
        rcases hall _ x hx with⟨q,_⟩ | ⟨i,bk',q1,q2,q3,q4,q5⟩ | ⟨_,_,d,q,_⟩
        ·exact absurd (by omega) (idlt _ q)
        ·have:i=ids.length+j:=by omega
         subst this
         rw[lookB_of k2 q1]at hlk
         injection hlk with hlk
         rw[q5,hlk]
         rfl
        ·obtain⟨bkr,hbr,_⟩:=hot_some (rwD_hot q)
         exact absurd (by omega) (blt _ _ hbr)
      ·by_cases hrow:∃d,rwD (blk l)=some d
       ·obtain⟨d,hrow⟩:=hrow
        obtain⟨bkr,hbr,_⟩:=hot_some (rwD_hot hrow)
        refine .inl ⟨d,hrow,updL_at (by
         rw[hblks,if_pos hz]
         exact List.mem_append_right _ (List.mem_filterMap.2 ⟨l,hl,by unfold iceOf;rw[hrow]⟩)) fun x hx=> ?_⟩
        rcases hall _ x hx with⟨q,_⟩ | ⟨i,bk',q1,q2,q3,q4,q5⟩ | ⟨_,_,d',q,q'⟩
        ·exact absurd q (hv l hl)
        ·exact absurd (by omega) (blt _ _ hbr)
        ·rw[hrow]at q
         injection q with q
         rw[q',q]
       ·have hnot:hot (blk l)=false:=by
         rcases hvr l hl with q | q | q
         ·exact absurd q hrow
         ·exact q
         ·exact absurd (c1 l q) (hv l hl)
        by_cases hfl:fr<=l/\l < fr+64
        ·obtain⟨u,hu⟩:=hvl l hl
         exact absurd hfl (glt l u hu)
        ·refine .inr ⟨hnot,updL_off fun x hx=> ?_⟩
         rcases hall _ x hx with⟨q,_⟩ | ⟨i,bk',q1,q2,q3,q4,q5⟩ | ⟨_,_,d',q,q'⟩
         ·exact hv l hl q
         ·exact hfl (by omega)
         ·exact hrow ⟨d',q⟩
      ·refine updL_off fun x hx=> ?_
       rcases hall _ x hx with⟨q,_⟩ | ⟨i,bk',q1,q2,q3,q4,q5⟩ | ⟨hz,q,_⟩
       ·exact h1 q
       ·exact h3 (by omega)
       ·exact h2 hz q
     obtain⟨g1,g2,g3,g4⟩:=h.back hS hfr hnd hg hv hm hc' hB (fun i hi=>by
       by_cases hk:i∈keep
       ·have:=(k6 i hk).1;omega
       rw[tabOff i hk]at hi
       obtain⟨bk,hbk⟩:=Option.isSome_iff_exists.1 hi
       exact freshOk_lt k1 i bk (lookB_mem hbk))
      (fun i bk hbk l hl=>by
       by_cases hk:i∈keep
       ·rw[tabOn i hk]at hbk
        exact tabIn l (allIn_mem k5 l (List.mem_flatMap.2 ⟨i,hk,by unfold refsAt;rw[hbk];exact hl⟩))
       ·rw[tabOff i hk]at hbk
        exact tabIn l (allIn_mem k3 l (List.mem_flatMap.2 ⟨(i,bk),lookB_mem hbk,hl⟩)))
      (fun i bk hbk hd=>by
       simp only[fz,Bool.or_eq_true,List.any_eq_true]
       by_cases hk:i∈keep
       ·rw[tabOn i hk]at hbk
        exact .inr ⟨i,hk,by unfold datAt;rw[hbk];exact hd⟩
       ·rw[tabOff i hk]at hbk
        exact .inl (.inr ⟨(i,bk),lookB_mem hbk,hd⟩))
     refine⟨v,_,rfl,gBack_more,g2,g1,?_⟩
     have:out.val=r.ren (backTo ids fr):=by rw[<-hout]
     rw[this]
     exact hr.ren (fun l hl u hu=>g4 l (tabIn l (allIn_mem k4 l hl)) u hu) (fun hd=>g3 (by simp[fz,hd]))
    ·cases hout
   ·cases hout
  ·cases hout
end
end Go.Vc

/- Server: handlers: the program's checks are the reference's. -/
import Derived.Test.YtiibcbmenoaigaaGreatDoorQd
import Derived.Test.YtiibcbmenoaigaaGreatDoorLa
namespace Go.Proofs.YtiibcbmenoaigaaGreatDoor
open Go.RowKit Go.Vc
set_option linter.unusedVariables false
set_option linter.unusedSimpArgs false
set_option maxRecDepth 100000
theorem add_nil (b:Bool)(n e:Int)(p:ref12_list):(c12addP b n e p).l=[] ↔ b=false/\p.l=[]:=by
 unfold c12addP c12add
 cases b<;>simp[Pg.val]
theorem notes_nil (l:List Note)(t n:Int)(p:ref12_list):(c12notesP l t n p).l=[] ↔ (r8checkP l t !=0)=false/\p.l=[]:=by
 unfold c12notesP c12notes
 simp only[val_ob,val_lt,val_ret]
 exact add_nil _ _ _ _
theorem forE_back {A R:Type}{b:Nat->A->ref12_list->ref12_list⊕R}{f:Nat->ref12_list->R}{d:A}(P:Nat->A->Prop):∀(l:List A) (k:Nat) (y:ref12_list),(∀j y,j < l.length->∃y',b (k+j) (l.getD j d) y= .inl y'/\(y'.l=[]->y.l=[]/\P (k+j) (l.getD j d)))->
  ∃yF:ref12_list,forE b f l k y=f (k+l.length) yF/\(yF.l=[]->y.l=[]/\∀j,j < l.length->P (k+j) (l.getD j d))
 | [],k,y,_=>⟨y,rfl,fun h=>⟨h,fun j hj=>by simp at hj⟩⟩
 | a::l,k,y,h=>by
  obtain⟨y1,e1,h1⟩:=h 0 y (by simp)
  obtain⟨yF,e2,h2⟩:=forE_back P l (k+1) y1 fun j y hj=>by
   have:=h (j+1) y (by simpa using hj)
   rw[show k+1+j=k+(j+1) by omega]
   exact this
  refine⟨yF,?_,fun hF=> ?_⟩
  ·unfold forE
   have e1:b k a y= .inl y1:=e1
   rw[e1]
   show forE b f l (k+1) y1=_
   rw[e2,List.length_cons]
   congr 1
   omega
  ·obtain⟨h3,h4⟩:=h2 hF
   obtain⟨h5,h6⟩:=h1 h3
   refine⟨h5,fun j hj=> ?_⟩
   cases j with
   | zero=>exact h6
   | succ j=>
    have:=h4 j (by simpa using hj)
    rw[show k+1+j=k+(j+1) by omega]at this
    exact this
theorem forN_end {Y R:Type}{b:Int->Y->Y⊕R}{f:Int->Y->R}(hb:∀i y,∃y',b i y= .inl y'):∀(n:Nat) (i:Int) (y:Y),∃j y',forN b f n i y=f j y'
 | 0,i,y=>⟨i,y,rfl⟩
 | n+1,i,y=>by
  obtain⟨y1,e⟩:=hb i y
  obtain⟨j,y2,e2⟩:=forN_end hb n (i+1) y1
  refine⟨j,y2,?_⟩
  unfold forN
  rw[e]
  exact e2
theorem forE_bk {A R:Type}{b:Nat->A->ref12_list->ref12_list⊕R}{f:Nat->ref12_list->R}{d:A}(P:Nat->A->Prop){l:List A}{k:Nat}{y:ref12_list}{r:R}(h:forE b f l k y=r)(hb:∀j y,j < l.length->∃y',b (k+j) (l.getD j d) y= .inl y'/\(y'.l=[]->y.l=[]/\P (k+j) (l.getD j d))):
  ∃yF:ref12_list,f (k+l.length) yF=r/\(yF.l=[]->y.l=[]/\∀j,j < l.length->P (k+j) (l.getD j d)):=by
 obtain⟨yF,e,h2⟩:=forE_back (f:=f) P l k y hb
 exact⟨yF,e.symm.trans h,h2⟩
theorem spans_nil (l:List Span)(a b:Int)(p:ref12_list)(h:(c12spansP l a b p).l=[]):p.l=[]:=by
 unfold c12spansP c12spans at h
 simp only[val_each,val_ix,val_lt,val_br,val_ob,val_ret]at h
 generalize hr:forE _ _ l 0 p=r at h
 obtain⟨yF,e,h2⟩:=forE_bk (d:=d_Span) (fun _ _=>True) hr fun j y hj=>by
  cases decide ((l.getD j d_Span).From < a)<;>cases decide (b < (l.getD j d_Span).To)<;>cases decide ((0:Int) < (↑(0+j):Int))<;>exact⟨_,rfl,fun h=>⟨by simp only[add_nil]at h;simp[h],trivial⟩⟩
 exact(h2 (by rw[<-e]at h;exact h)).1
theorem forN_all {Y R:Type}{b:Int->Y->Y⊕R}{f:Int->Y->R}{Q:R->Prop}{n:Nat}{i:Int}{y:Y}(hb:∀i y,∃y',b i y= .inl y')(hf:∀j y',Q (f j y')):Q (forN b f n i y):=by
 obtain⟨j,y',e⟩:=forN_end (f:=f) hb n i y
 rw[e]
 exact hf j y'
theorem msg_card (s:Schema)(m:Message)(fin:List Bool)(h:c12msgP s m fin=[]):∀j,j < m.Fields.length->c12cardP (m.Fields.getD j d_AField)=true:=by
 unfold c12msgP c12msg at h
 simp only[val_each,val_cnt,val_ix,val_lt,val_br,val_ob,val_ret,val_cut,thenS_inl]at h
 cases h64:decide ((64:Int) < (↑m.Fields.length:Int))<;>rw[h64]at h<;>cases h16:decide ((16:Int) < (↑m.Reserved.length:Int))<;>rw[h16]at h<;>simp only[cond_true,cond_false,thenS_inl]at h
 all_goals
  generalize hr:forE _ _ m.Fields 0 _=r at h
  obtain⟨yF,e,h2⟩:=forE_bk (d:=d_AField) (fun k a=>c12cardP a=true) hr fun j y hj=>by
   refine forN_all (Q:=fun r=>∃y':ref12_list,r=Sum.inl y'/\(y'.l=[]->y.l=[]/\c12cardP (m.Fields.getD j d_AField)=true)) (fun i y=> ?_) (fun i6 y6=> ?_)
   ·cases((m.Fields.getD i.toNat d_AField).Name==(m.Fields.getD j d_AField).Name)<;>exact⟨_,rfl⟩
   ·cases hd1:decide ((m.Fields.getD j d_AField).Num < 1)<;>cases hk:decide ((0:Int) < (↑(0+j):Int))<;>cases hr:c12resP m.Reserved (m.Fields.getD j d_AField).Num<;>refine⟨_,rfl,fun h=> ?_⟩<;>simp only[notes_nil,add_nil,and_assoc]at h
    all_goals
     refine⟨by simp[h],?_⟩
     have hd:(!c12cardP (m.Fields.getD j d_AField))=false:=by
      first | exact h.1 | exact h.2.1 | exact h.2.2.1 | exact h.2.2.2.1 | exact h.2.2.2.2.1 | exact h.2.2.2.2.2.1 | exact h.2.2.2.2.2.2.1
     simpa using hd
  rw[<-e,thenS_inl]at h
  obtain⟨yG,e2,h3⟩:=forE_bk (d:=[]) (fun _ _=>True) h fun j y hj=>⟨_,rfl,fun h=>⟨((add_nil _ _ _ _).1 h).2,trivial⟩⟩
  simp only[notes_nil,add_nil]at e2
  obtain⟨hp,hq⟩:=h2 (spans_nil _ _ _ _ (h3 e2.2.2).1)
  exact hq
theorem mem_at {A:Type}(d:A){l:List A}{a:A}(h:a∈l):∃j,j < l.length/\l.getD j d=a:=by
 obtain⟨j,hj,e⟩:=List.mem_iff_getElem.1 h
 exact⟨j,hj,by simp[List.getD,hj,e]⟩
theorem all_nil (s:Schema)(h:c12validP s=true):∀m∈s.Messages,c12msgP s m (c12finP s)=[]:=by
 unfold c12validP c12valid at h
 simp only[val_ob,val_ret]at h
 have h:c12allP s=[]:=by
  have:(↑(c12allP s).length:Int)=0:=by simpa using h
  exact List.length_eq_zero_iff.1 (by omega)
 unfold c12allP c12all at h
 simp only[val_each,val_cnt,val_ix,val_lt,val_br,val_ob,val_ret,val_cut,val_wh]at h
 generalize hW:whN _ _ 5 _=W at h
 obtain⟨y4,e4⟩:∃y4,W=Sum.inl y4:=by
  rw[<-hW]
  refine whN_post (fun x:Int×ref12_list=>1<=x.1/\x.1<=4) (fun x=>4 - x.1.toNat) (fun r=>∃y4,r=Sum.inl y4) (fun x hx=> ?_) 5 _ ⟨by decide,by decide⟩ (by decide)
  by_cases hd:x.1<=3
  ·have w:wrp .i64 (x.1+1)=x.1+1:=wrp_in (k:= .i64) (by simp only[InR];omega)
   simp only[decide_eq_true hd,cond_true,w]
   exact .inl ⟨_,rfl,⟨by show 1<=x.1+1;omega,by show x.1+1<=4;omega⟩,by show 4 - (x.1+1).toNat < 4 - x.1.toNat;omega⟩
  ·simp only[decide_eq_false hd,cond_false]
   exact .inr ⟨_,rfl,x.2,rfl⟩
 subst e4
 rw[thenS_inl]at h
 cases hm1:c12meetP (c12namesP s 1) (c12namesP s 2)<;>rw[hm1]at h<;>cases hm2:c12meetP (c12namesP s 1) (c12namesP s 3)<;>rw[hm2]at h<;>simp only[cond_true,cond_false,thenS_inl]at h
 all_goals
  generalize hr:forE _ _ s.Messages 0 _=r at h
  obtain⟨y9,e,h2⟩:=forE_bk (d:=d_Message) (fun k a=>c12msgP s a (c12finP s)=[]) hr fun j y hj=>⟨_,rfl,fun h=>List.append_eq_nil_iff.1 h⟩
  rw[<-e,thenS_inl]at h
  generalize hr2:forE _ _ s.Enums 0 _=r2 at h
  obtain⟨y13,e2,h3⟩:=forE_bk (d:=d_Enum) (fun k a=>True) hr2 fun j y hj=>⟨_,rfl,fun h=>⟨(List.append_eq_nil_iff.1 h).1,trivial⟩⟩
  rw[<-e2,thenS_inl]at h
  obtain⟨y15,e3,h4⟩:=forE_bk (d:=d_Service) (fun k a=>True) h fun j y hj=>⟨_,rfl,fun h=>⟨(List.append_eq_nil_iff.1 h).1,trivial⟩⟩
  have h5:=(h2 (h3 (h4 e3).1).1).2
  intro m hm
  obtain⟨j,hj,ej⟩:=mem_at d_Message hm
  have:=h5 j hj
  rw[ej]at this
  exact this
theorem card_range (f:AField)(h:c12cardP f=true):1<=f.Card/\f.Card<=5:=by
 unfold c12cardP c12card at h
 simp only[val_br,val_ret]at h
 by_cases h5:f.Card=5
 ·omega
 ·have e5:(f.Card !=5)=true:=by simp[h5]
  rw[e5,cond_true]at h
  by_cases h1:1<=f.Card
  ·by_cases h4:f.Card<=4
   ·omega
   ·rw[decide_eq_true h1,decide_eq_false h4]at h;cases h
  ·rw[decide_eq_false h1]at h;cases h
theorem cards_ok (s:Schema)(h:c12validP s=true):∀m∈s.Messages,∀f∈m.Fields,1<=f.Card/\f.Card<=5:=by
 intro m hm f hf
 obtain⟨j,hj,rfl⟩:=mem_at d_AField hf
 exact card_range _ (msg_card s m _ (all_nil s h m hm) j hj)
theorem ranged_eq (x:Handler):rangedP x=r52rangedP x:=by
 unfold rangedP ranged r52rangedP r52ranged
 simp only[val_br,val_ret,val_cut,inl_cond,thenS_inl]
 cases decide (x.Cost < 0)<;>cases decide (1099511627776 < x.Cost)<;>cases x.Kind==1<;>cases x.Kind==2<;>cases x.Kind==3<;>cases x.Kind==4<;>cases x.Kind==5<;>cases decide (1<=x.Num)<;>cases decide (0<=x.Num)<;>rfl
theorem forE_allR {A:Type}{b:Nat->A->Unit->Unit⊕Bool}{f:Nat->Unit->Bool}{p:A->Bool}{F:Bool}(hb:∀k a,b k a ()=bif p a then .inl ()else .inr false)(hf:∀k,f k ()=F):∀(l:List A) (k:Nat),forE b f l k ()=bif l.all p then F else false
 | [],k=>hf k
 | a::l,k=>by
  unfold forE
  rw[hb,List.all_cons]
  cases p a with
  | true=>exact forE_allR hb hf l (k+1)
  | false=>rfl
def nameB (a:UInt8):Bool:=bif decide ((a.toNat:Int) < 97)then bif decide ((a.toNat:Int) < 48)then false else !decide (57 < (a.toNat:Int))else bif decide (122 < (a.toNat:Int))then bif decide ((a.toNat:Int) < 48)then false else !decide (57 < (a.toNat:Int))else true
theorem named_eq (s:Str):isNameP s=r52namedP s:=by
 unfold isNameP isName r52namedP r52named
 simp only[val_br,val_ret,val_as,val_each,val_ix]
 rw[forE_allR (p:=nameB) (F:=true) (fun k a=> ?_) (fun k=>rfl) s 0,forE_allR (p:=nameB) (F:=bif decide (1<=(s.length:Int))then decide ((s.length:Int)<=40)else false) (fun k a=> ?_) (fun k=>rfl) s 0]
 ·by_cases h1:(s.length:Int) < 1
  ·rw[decide_eq_true h1,decide_eq_false (show ¬1<=(s.length:Int) by omega)]
   cases s.all nameB<;>rfl
  ·rw[decide_eq_false h1,decide_eq_true (show 1<=(s.length:Int) by omega)]
   by_cases h2:40 < (s.length:Int)
   ·rw[decide_eq_true h2,decide_eq_false (show ¬(s.length:Int)<=40 by omega)]
    cases s.all nameB<;>rfl
   ·rw[decide_eq_false h2,decide_eq_true (show(s.length:Int)<=40 by omega)]
    cases s.all nameB<;>rfl
 ·unfold nameB
  cases decide ((a.toNat:Int) < 97)<;>cases decide ((a.toNat:Int) < 48)<;>cases decide (57 < (a.toNat:Int))<;>cases decide (122 < (a.toNat:Int))<;>rfl
 ·unfold nameB
  cases decide ((a.toNat:Int) < 97)<;>cases decide ((a.toNat:Int) < 48)<;>cases decide (57 < (a.toNat:Int))<;>cases decide (122 < (a.toNat:Int))<;>rfl
theorem split_as (s:Str)(h:s.length<=1048576):r14splitP s 47=scutP s:=by
 rw[scut_as s h]
 unfold r14splitP r14split
 simp only[val_each,val_ix,val_br,val_ob,val_lt,val_ret]
 refine forE_at (p:=fun x=>x==47) (g:=fun k=>(s.take k,s.drop (k+1),true)) s 0 (fun j a hj=> ?_) rfl
 have hl:j < s.length:=(List.getElem?_eq_some_iff.1 hj).1
 simp only[Nat.zero_add,Int.toNat_natCast,List.take_length]
 rw[show(((a.toNat:Int))==47)=(a==47)from byteI2 a 47,wrp_next (by omega),Int.toNat_natCast]
theorem service_as (s:Schema)(n:Str):r14ServiceP s n=bif decide (0<=ixOf (fun(x:Service)=>x.Name==n) s.Services)then(s.Services.getD (ixOf (fun(x:Service)=>x.Name==n) s.Services).toNat d_Service,true)else(⟨[],[],[]⟩,false):=by
 unfold r14ServiceP r14Service
 simp only[val_each,val_ix,val_br,val_ret]
 refine forE_at (p:=fun(x:Service)=>x.Name==n) (g:=fun k=>(s.Services.getD k d_Service,true)) s.Services 0 (fun j a hj=> ?_) rfl
 have e:s.Services.getD (0+j) d_Service=a:=by rw[Nat.zero_add];simp[List.getD,hj]
 rw[e]
theorem message13 (s:Schema)(n:Str):(r13MessageP s n).1=bif decide (0<=ixOf (fun(x:Message)=>x.Name==n) s.Messages)then s.Messages.getD (ixOf (fun(x:Message)=>x.Name==n) s.Messages).toNat d_Message else⟨[],[],[],[],[]⟩:=by
 have e:r13MessageP s n=bif decide (0<=ixOf (fun(x:Message)=>x.Name==n) s.Messages)then(s.Messages.getD (ixOf (fun(x:Message)=>x.Name==n) s.Messages).toNat d_Message,(((ixOf (fun(x:Message)=>x.Name==n) s.Messages).toNat:Nat):Int))else(⟨[],[],[],[],[]⟩,-1):=by
  unfold r13MessageP r13Message
  simp only[val_each,val_ix,val_br,val_ret]
  refine forE_at (p:=fun(x:Message)=>x.Name==n) (g:=fun k=>(s.Messages.getD k d_Message,((k:Nat):Int))) s.Messages 0 (fun j a hj=> ?_) rfl
  have e:s.Messages.getD (0+j) d_Message=a:=by rw[Nat.zero_add];simp[List.getD,hj]
  rw[e]
 rw[e]
 cases decide (0<=ixOf (fun(x:Message)=>x.Name==n) s.Messages)<;>rfl
theorem messageD (s:Schema)(n:Str):(dMessageP s n).1=(r13MessageP s n).1:=by
 rw[message13]
 have e:dMessageP s n=bif decide (0<=ixOf (fun(x:Message)=>x.Name==n) s.Messages)then(s.Messages.getD (ixOf (fun(x:Message)=>x.Name==n) s.Messages).toNat d_Message,true)else(⟨[],[],[],[],[]⟩,false):=by
  unfold dMessageP dMessage fsMP fsM
  simp only[val_as,val_each,val_ix,val_br,val_ret]
  refine forE_at (p:=fun(x:Message)=>x.Name==n) (g:=fun k=>(s.Messages.getD k d_Message,true)) s.Messages 0 (fun j a hj=> ?_) rfl
  have e:s.Messages.getD (0+j) d_Message=a:=by rw[Nat.zero_add];simp[List.getD,hj]
  rw[e]
  rfl
 rw[e]
 cases decide (0<=ixOf (fun(x:Message)=>x.Name==n) s.Messages)<;>rfl
theorem method_eq (s:Schema)(path:Str)(h:path.length<=1048576):dMethodP s path=r14MethodP s path:=by
 unfold dMethodP dMethod r14MethodP r14Method
 simp only[val_ob,val_lt,val_br,val_ret,val_each,val_ix,split_as path h]
 cases(scutP path).2.2 with
 | false=>rfl
 | true=>
  simp only[Bool.not_true,cond_false]
  have hs:dServiceP s (scutP path).1=r14ServiceP s (scutP path).1:=rfl
  rw[hs,service_as]
  by_cases h0:0<=ixOf (fun(x:Service)=>x.Name==(scutP path).1) s.Services
  ·rw[decide_eq_true h0];rfl
  ·rw[decide_eq_false h0];rfl
theorem find_eq (s:Schema)(path:Str)(h:path.length<=1048576):mFindP s path=r43FindP s path:=by
 have hl:=ixOf_lt (fun(x:UInt8)=>x==47) path
 unfold mFindP mFind r43FindP r43Find
 simp only[val_cut,val_ob,val_lt,val_br,val_ret,val_wh,val_ix]
 rw[down_at (F:=fun(y:Int)=>(Sum.inl y:Int⊕(AMethod×Int))) h (fun x=>rfl),thenS_inl,scut_as path h,method_eq s path h]
 by_cases h0:0<=ixOf (fun x=>x==47) path
 ·have w:wrp .i64 (ixOf (fun x=>x==47) path+1)=ixOf (fun x=>x==47) path+1:=wrp_in (k:= .i64) (by simp only[InR];omega)
  rw[decide_eq_true h0,decide_eq_false (show ¬ixOf (fun x=>x==47) path < 0 by omega),w,show(ixOf (fun x=>x==47) path+1).toNat=(ixOf (fun x=>x==47) path).toNat+1 by omega,List.take_length]
  simp only[cond_true,cond_false,ifull_eq,ipart_eq,r6part_eq,Bool.not_true]
 ·rw[decide_eq_false h0,decide_eq_true (show ixOf (fun x=>x==47) path < 0 by omega)]
  rfl
theorem streams_eq (n:Int):mStreamsP n=r43StreamsP n:=rfl
theorem field_found (s:Schema)(n:Str)(num:Int):dFieldP (dMessageP s n).1 num=r52fieldP s n num:=by
 unfold dFieldP dField fsFP fsF r52fieldP r52field
 simp only[val_lt,val_ret,val_as,val_each,val_ix,val_br,AVal.re_eq,messageD]
 rfl
theorem field_card (s:Schema)(hc:∀m∈s.Messages,∀f∈m.Fields,1<=f.Card/\f.Card<=5)(n:Str)(num:Int):(r52fieldP s n num).2=true->1<=(r52fieldP s n num).1.Card/\(r52fieldP s n num).1.Card<=5:=by
 unfold r52fieldP r52field
 simp only[val_lt,val_ret,val_each,val_ix,val_br,AVal.re_eq]
 have hm:∀f∈(r13MessageP s n).1.Fields,1<=f.Card/\f.Card<=5:=by
  rw[message13]
  by_cases h0:0<=ixOf (fun(x:Message)=>x.Name==n) s.Messages
  ·rw[decide_eq_true h0]
   have:=(ixOf_lt (fun(x:Message)=>x.Name==n) s.Messages).1
   exact hc _ (getD_mem (d:=d_Message) (by omega))
  ·rw[decide_eq_false h0]
   exact fun f hf=>by cases hf
 refine forE_post (d:=d_AField) (Q:=fun r:AField×Bool=>r.2=true->1<=r.1.Card/\r.1.Card<=5) (fun _ _=>True) (r13MessageP s n).1.Fields 0 () trivial (fun j y hj _=> ?_) (fun y _=>fun k=>by cases k)
 cases((r13MessageP s n).1.Fields.getD j d_AField).Num==num with
 | true=>exact fun _=>hm _ (getD_mem (d:=d_AField) hj)
 | false=>exact trivial
theorem counted_eq (s:Schema)(hc:∀m∈s.Messages,∀f∈m.Fields,1<=f.Card/\f.Card<=5)(n:Str)(num:Int):(countedP s n num).2=(bif (r52fieldP s n num).2 then bif decide ((r52fieldP s n num).1.Card<=3)then bif (r52fieldP s n num).1.Type_.Kind==4 then true else(r52fieldP s n num).1.Type_.Kind==5 else false else false):=by
 have hf:=field_card s hc n num
 unfold countedP counted
 simp only[val_lt,val_br,val_ret,field_found]
 generalize r52fieldP s n num=v at*
 cases h2:v.2 with
 | false=>cases v.1.Type_.Kind==4<;>rfl
 | true=>
  obtain⟨c1,c5⟩:=hf h2
  simp only[cond_true]
  by_cases h3:v.1.Card<=3
  ·have e4:(v.1.Card !=4)=true:=by simp;omega
   have e5:(v.1.Card !=5)=true:=by simp;omega
   rw[decide_eq_true h3,e4,e5]
   cases v.1.Type_.Kind==4<;>cases v.1.Type_.Kind==5<;>rfl
  ·rw[decide_eq_false h3]
   by_cases h4:v.1.Card=4
   ·have e4:(v.1.Card !=4)=false:=by simp[h4]
    rw[e4]
    cases v.1.Type_.Kind==4<;>cases v.1.Type_.Kind==5<;>rfl
   ·have e4:(v.1.Card !=4)=true:=by simp[h4]
    have e5:(v.1.Card !=5)=false:=by simp;omega
    rw[e4,e5]
    cases v.1.Type_.Kind==4<;>cases v.1.Type_.Kind==5<;>rfl
theorem fits_eq (s:Schema)(hc:∀m∈s.Messages,∀f∈m.Fields,1<=f.Card/\f.Card<=5)(x:Handler)(h:x.Method.length<=1048576):fitsP s x=r52fitsP s x:=by
 unfold fitsP fits r52fitsP r52fits
 simp only[val_ob,val_lt,val_br,val_ret,find_eq s x.Method h,ranged_eq,streams_eq,counted_eq s hc]
 cases(r43FindP s x.Method).2 !=0 with
 | true=>rfl
 | false=>
  cases r52rangedP (Handler.mk x.Method x.Kind x.Num 0)with
  | false=>rfl
  | true=>
   cases x.Kind==2 with
   | true=>rfl
   | false=>
    cases x.Kind==3 with
    | false=>rfl
    | true=>
     simp only[Bool.not_true,cond_true,cond_false]
     cases(r43StreamsP (r43FindP s x.Method).1.Shape).2<;>cases(r52fieldP s (r43FindP s x.Method).1.Out x.Num).2<;>cases decide ((r52fieldP s (r43FindP s x.Method).1.Out x.Num).1.Card<=3)<;>cases(r52fieldP s (r43FindP s x.Method).1.Out x.Num).1.Type_.Kind==4<;>first | rfl | (cases(r52fieldP s (r43FindP s x.Method).1.Out x.Num).1.Type_.Kind==5<;>rfl)
end Go.Proofs.YtiibcbmenoaigaaGreatDoor

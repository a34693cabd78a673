/- Server: full names. -/
import Derived.Test.YtiibcbmenoaigaaGreatDoorH
import Derived.Test.YtiibcbmenoaigaaGreatDoorX
namespace Go.Proofs.YtiibcbmenoaigaaGreatDoor
noncomputable section
open Go.RowKit Go.Vc
set_option linter.unusedVariables false
set_option linter.unusedSimpArgs false
set_option maxRecDepth 100000
def dotS:Str:=[46]
def sidx0 (s:Str):Pg Int:=
 .as (List.length dotS<=9223372036854775807)
  (.br (dotS==s) (.ret 0) (.ix 0 (List.length dotS) (.ret (Lib.indexByte s (List.getD dotS 0 0).toNat.toUInt8))))
def sidx0P (s:Str):Int:=(sidx0 s).val
theorem sidx0_is (s:Str):Is (sidx0 s):=
 is_as fun _=>is_br (fun _=>is_ret) (fun _=>is_ix (by decide) (by decide) is_ret)
def e_sidx0:Ent Z:=entN Z [e_indexByte] [jS 15 (shp (fun sl=>[.slot 8 false [none], .slot 10 false [none]]) (lCons (cInt .i64) (l1 (cInt .i64))))] (args (aCons (aLf cStr) (a1 (aLf cStr)))) (argsI (n:=143) rfl) (shr [.slot 0 false [none]] (l1 (cInt .i64))) [] Tryz.func116 Tryz.ntmps116 (by kernel_rfl) 1 rfl (fun a=>sidx0 (a.1)) (fun a=>some (a.2=dotS)) (fun⟨s,p⟩ e h=>by have hf0:p=dotS:=h;subst hf0;show _=_;kernel_rfl) (fun a=>sidx0P (a.1)) (fun a h=>⟨sidx0_is (a.1),rfl⟩)
theorem sidx0_eq (s:Str):sidx0P s=Lib.indexByte s 46:=by
 unfold sidx0P sidx0
 simp only[val_as,val_cut,val_br,val_ob,val_ret]
 by_cases h:dotS=s
 ·subst h;rfl
 ·have:(dotS==s)=false:=by simpa using h
  rw[this]
  rfl
theorem dot_len:((List.length dotS:Nat):Int)=1:=rfl
def sidx (s:Str):Pg Int:=
 .ob (dotS=dotS) (.ret (sidx0P s))
theorem sidx_is (s:Str):Is (sidx s):=
 is_ob rfl is_ret
def e_sidx:Ent Z:=entN Z [e_sidx0] [] (args (aCons (aLf cStr) (a1 (aLf cStr)))) (argsI (n:=8) rfl) (shr [.slot 0 false [none]] (l1 (cInt .i64))) [] Tryz.func184 Tryz.ntmps184 (by kernel_rfl) 1 rfl (fun a=>sidx (a.1)) (fun a=>some (a.2=dotS)) (fun⟨s,p⟩ e h=>by have hf0:p=dotS:=h;subst hf0;show _=_;kernel_rfl) (fun a=>Lib.indexByte (a.1) 46) (fun a h=>⟨sidx_is (a.1),sidx0_eq (a.1)⟩)
def gsBody (i:Int)(y:List UInt8×List Str):(List UInt8×List Str)⊕((List UInt8×Int×List Str)⊕List Str):=
 bif decide (Lib.indexByte y.1 46 < 0)then .inr (.inl (y.1,i,y.2))else .inl (List.drop (wrp .i64 (Lib.indexByte y.1 46+1)).toNat (List.take y.1.length y.1),y.2.set i.toNat (List.take (wrp .i64 (Lib.indexByte y.1 46+0)).toNat y.1))
def gsFin (i:Int)(y:List UInt8×List Str):(List UInt8×Int×List Str)⊕List Str:= .inl (y.1,i,y.2)
theorem idx_facts {r:Str}(hr:r.length<=4294967296)(h:0 < Lib.countByte r 46):∃m:Nat,Lib.indexByte r 46=(m:Int)/\m < r.length/\partsB 46 r=r.take m::partsB 46 (r.drop (m+1))/\Lib.countByte r 46=Lib.countByte (r.drop (m+1)) 46+1:=by
 have hge:=Lib.indexByte_ge r 46
 by_cases h1:Lib.indexByte r 46= -1
 ·have:=(parts_none h1).2;omega
 ·obtain⟨m,hm⟩:∃m:Nat,Lib.indexByte r 46=(m:Int):=⟨(Lib.indexByte r 46).toNat,by omega⟩
  obtain⟨k1,k2,k3⟩:=parts_some hm
  exact⟨m,hm,k1,k2,k3⟩
theorem gs_step {r:Str}{a:List Str}{i:Nat}(hr:r.length<=4294967296)(h:0 < Lib.countByte r 46):∃m:Nat,gsBody (i:Int) (r,a)= .inl (r.drop (m+1),a.set i (r.take m))/\partsB 46 r=r.take m::partsB 46 (r.drop (m+1))/\Lib.countByte r 46=Lib.countByte (r.drop (m+1)) 46+1:=by
 obtain⟨m,hm,k1,k2,k3⟩:=idx_facts hr h
 refine⟨m,?_,k2,k3⟩
 unfold gsBody
 have w1:wrp .i64 ((m:Int)+1)=((m+1:Nat):Int):=wrp_next (by omega)
 have w2:wrp .i64 ((m:Int)+0)=((m:Nat):Int):=by rw[Int.add_zero,wrp_in (k:= .i64) (by simp only[InR];omega)]
 rw[hm,w1,w2,decide_eq_false (show ¬(m:Int) < 0 by omega),cond_false,List.take_length,Int.toNat_natCast,Int.toNat_natCast,Int.toNat_natCast]
theorem gs_loop:∀(n i:Nat) (r:Str) (a:List Str),Lib.countByte r 46=n->a.length=i+n+1->r.length<=4294967296->∃r' a',forN gsBody gsFin n (i:Int) (r,a)= .inl (r',((i+n:Nat):Int),a')/\a'.length=i+n+1/\a'.take (i+n)++[r']=a.take i++partsB 46 r
 | 0,i,r,a,hc,ha,hr=>by
  have h1:Lib.indexByte r 46= -1:=by
   have hge:=Lib.indexByte_ge r 46
   by_cases h1:Lib.indexByte r 46= -1
   ·exact h1
   ·obtain⟨_,_,k3⟩:=parts_some (s:=r) (c:=46) (m:=(Lib.indexByte r 46).toNat) (by omega)
    omega
  exact⟨r,a,rfl,ha,by rw[(parts_none h1).1];rfl⟩
 | n+1,i,r,a,hc,ha,hr=>by
  obtain⟨m,hb,k2,k3⟩:=gs_step (a:=a) (i:=i) hr (by omega)
  have hr1:(r.drop (m+1)).length<=4294967296:=by rw[List.length_drop];omega
  obtain⟨r',a',h1,h2,h3⟩:=gs_loop n (i+1) (r.drop (m+1)) (a.set i (r.take m)) (by omega) (by rw[List.length_set];omega) hr1
  refine⟨r',a',?_,by omega,?_⟩
  ·unfold forN
   rw[hb]
   have e:((i:Int)+1)=((i+1:Nat):Int):=rfl
   rw[e]
   simp only
   rw[h1,show i+1+n=i+(n+1) by omega]
  ·rw[show i+(n+1)=i+1+n by omega,h3,k2]
   have:(a.set i (r.take m)).take (i+1)=a.take i++[r.take m]:=by
    rw[List.take_set,List.take_add_one,List.getElem?_eq_getElem (by omega)]
    have hlt:(a.take i).length=i:=by rw[List.length_take];omega
    simp only[Option.toList_some]
    rw[List.set_append_right _ _ (by omega),hlt,Nat.sub_self]
    rfl
   rw[this,List.append_assoc]
   rfl
theorem gs_n (s:Str)(h:s.length<=4294967296):min (wrp .i64 ((Lib.countByte s 46:Int)+1)) (wrp .i64 ((s.length:Int)+1))=((Lib.countByte s 46+1:Nat):Int)/\wrp .i64 (((Lib.countByte s 46+1:Nat):Int) - 1)=((Lib.countByte s 46:Nat):Int):=by
 have hc:=count_le 46 s
 have w1:wrp .i64 ((Lib.countByte s 46:Int)+1)=((Lib.countByte s 46+1:Nat):Int):=wrp_next (by omega)
 have w2:wrp .i64 ((s.length:Int)+1)=((s.length+1:Nat):Int):=wrp_next (by omega)
 rw[w1,w2,wrp_in (k:= .i64) (by simp only[InR];omega)]
 omega
def gsplit (s:Str):Pg (List Str):=
 .cut
  (fun(y1:Int)=>
   .lt (wrp .i64 ((↑(List.length s):Int)+1)) fun(v5:Int)=>
    .ob (min y1 v5=min y1 v5/\0<=min y1 v5/\min y1 v5*(16:Int)<=281474976710656/\min y1 v5<=1099511627776)
     (.cut
      (fun(y4:List UInt8×Int×List Str)=>
       .ix y4.snd.fst y4.snd.snd.length
        (.ob (y4.snd.fst.toNat < y4.snd.snd.length)
         (.lt (y4.snd.snd.set y4.snd.fst.toNat y4.fst) fun(v6:List Str)=>
          .lt (wrp .i64 (y4.snd.fst+1)) fun(v7:Int)=>
           .ob ((0:Int)<=0/\0<=v7/\v7<=(↑v6.length:Int)) (.ret (List.take v7.toNat v6)))))
      (.lt (wrp .i64 (min y1 v5 - 1)) fun(v8:Int)=>
       .cnt ixP 0 v8
        (fun(i2:Int) (y3:List UInt8×List Str)=>
         .ob (dotS=dotS)
          (.br (decide (Lib.indexByte y3.fst 46 < 0)) (.ret (.inr (.inl (y3.fst,i2,y3.snd))))
           (.lt (wrp .i64 (Lib.indexByte y3.fst 46+0)) fun(v9:Int)=>
            .ob ((0:Int)<=0/\0<=v9/\v9<=(↑y3.fst.length:Int))
             (.ix i2 y3.snd.length
              (.ob (i2.toNat < y3.snd.length)
               (.lt (wrp .i64 (Lib.indexByte y3.fst 46+(↑(List.length dotS):Int))) fun(v10:Int)=>
                .ob (0<=v10/\v10<=(↑y3.fst.length:Int)/\(↑y3.fst.length:Int)<=(↑y3.fst.length:Int))
                 (.as (List.length dotS<=9223372036854775807)
                  (.ret (.inl (List.drop v10.toNat (List.take y3.fst.length y3.fst),y3.snd.set i2.toNat (List.take v9.toNat y3.fst)))))))))))
        (fun(i2:Int) (y3:List UInt8×List Str)=> .ret (.inl (y3.fst,i2,y3.snd))) (s,List.replicate (min y1 v5).toNat []))))
  (.ret (.inl (wrp .i64 ((↑(Lib.countByte s 46):Int)+1))))
def gsplitP (s:Str):List Str:=(gsplit s).val
theorem gsplit_is (s:Str)(h:s.length<=4294967296):Is (gsplit s):=
 by
 obtain⟨hn,hc⟩:=gs_n s h
 have hcl:=count_le 46 s
 refine is_cut is_ret (fun y1 hy1=> ?_)
 have hy1:wrp .i64 ((Lib.countByte s 46:Int)+1)=y1:=by injection hy1
 subst hy1
 refine is_lt fun v5 hv5=> ?_
 subst hv5
 rw[hn]
 refine is_ob ⟨rfl,by omega,by omega,by omega⟩ (is_cut (is_lt fun v8 hv8=> ?_) fun y4 hy4=> ?_)
 ·subst hv8
  rw[hc]
  refine is_cntI (fun i y=>0<=i/\y.2.length=Lib.countByte s 46+1/\(Lib.countByte y.1 46:Int)=(Lib.countByte s 46:Int) - i/\y.1.length<=s.length) ⟨by omega,by rw[List.length_replicate];omega,by show(Lib.countByte s 46:Int)=_;omega,Nat.le_refl _⟩ (by omega) (by omega) (fun i2 y3 h1 h2 hI=> ?_) (fun i2 y3 _ _ _=>is_ret)
  obtain⟨hi,q1,q2,q3⟩:=hI
  obtain⟨m,hm,k1,k2,k3⟩:=idx_facts (r:=y3.1) (by omega) (by omega)
  have w1:wrp .i64 ((m:Int)+1)=((m+1:Nat):Int):=wrp_next (by omega)
  have w2:wrp .i64 ((m:Int)+0)=((m:Nat):Int):=by rw[Int.add_zero,wrp_in (k:= .i64) (by simp only[InR];omega)]
  rw[hm]
  rw[dot_len,w1,w2]
  refine⟨is_ob rfl (is_brd (fun _=>is_ret) (fun _=>is_lt fun v10 hv10=>is_ob (by omega) (is_ix (by omega) (by omega) (is_ob (by omega) (is_lt fun v11 hv11=>is_ob (by omega) (is_as fun _=>is_ret)))))),fun y' hy'=> ?_⟩
  ·revert hy'
   simp only[val_ob,val_lt,val_br,val_ix,val_as,val_ret]
   rw[decide_eq_false (show ¬(m:Int) < 0 by omega),cond_false,List.take_length]
   intro e
   injection e with e
   subst e
   refine⟨by omega,by simp only[List.length_set];exact q1,?_,?_⟩
   ·show(Lib.countByte (List.drop ((m+1:Nat):Int).toNat y3.1) 46:Int)=_
    rw[Int.toNat_natCast];omega
   ·show(List.drop ((m+1:Nat):Int).toNat y3.1).length<=_
    rw[List.length_drop];omega
 ·obtain⟨r',a',h1,h2,h3⟩:=gs_loop (Lib.countByte s 46) 0 s (List.replicate (((Lib.countByte s 46+1:Nat):Int)).toNat []) rfl (by rw[List.length_replicate];omega) h
  have e:y4=(r',((0+Lib.countByte s 46:Nat):Int),a'):=by
   have:=hy4
   simp only[val_lt,val_cnt,val_ob,val_br,val_ix,val_as,val_ret,hc,dot_len]at this
   have h1':=h1
   rw[show(((Lib.countByte s 46:Nat):Int) - 0).toNat=Lib.countByte s 46 by omega]at this
   have h4:=this.symm.trans h1'
   injection h4
  subst e
  dsimp only
  have w:wrp .i64 (((0+Lib.countByte s 46:Nat):Int)+1)=((0+Lib.countByte s 46+1:Nat):Int):=wrp_next (by omega)
  exact is_ix (by omega) (by omega) (is_ob (by omega) (is_lt fun v6 hv6=>is_lt fun v7 hv7=>is_ob (by rw[hv7,w,hv6,List.length_set];omega) is_ret))
def e_gsplit:Ent Z:=entN Z [e_count,e_sidx] [jS 11 (shp (fun sl=>[.slot 10 false [none], .slot 0 false [none], .row (pid (sl 9)) 9]) (lCons (cInt .i64) (lCons cStr (l1 cd_Lstr)))),jS 100007 (shp (fun sl=>[.slot 3 false [none]]) (l1 (cInt .i64))),jS 100017 (shp (fun sl=>[.slot 0 false [none], .slot 10 false [none], .row (pid (sl 9)) 9]) (lCons cStr (lCons (cInt .i64) (l1 cd_Lstr))))] (args (aCons (aLf cStr) (aCons (aLf cStr) (aCons (aLf (cInt .i64)) (a1 (aLf (cInt .i64))))))) (argsI (n:=66) rfl) (shr [.slot 0 false [none]] (l1 cd_Lstr)) [] Tryz.func117 Tryz.ntmps117 (by kernel_rfl) 1 rfl (fun a=>gsplit (a.1)) (fun a=>some ((a.2.1=dotS/\a.2.2.1=0/\a.2.2.2=(-1))/\((a.1).length<=4294967296))) (fun⟨s,p,save,n⟩ e h=>by have hf0:p=dotS:=h.1.1;subst hf0;have hf1:save=0:=h.1.2.1;subst hf1;have hf2:n=(-1):=h.1.2.2;subst hf2;show _=_;kernel_rfl) (fun a=>gsplitP (a.1)) (fun a h=>⟨gsplit_is (a.1) h.2,rfl⟩)
theorem gsplit_eq (s:Str)(h:s.length<=4294967296):gsplitP s=partsB 46 s:=by
 obtain⟨hn,hc⟩:=gs_n s h
 have hcl:=count_le 46 s
 obtain⟨r',a',h1,h2,h3⟩:=gs_loop (Lib.countByte s 46) 0 s (List.replicate (((Lib.countByte s 46+1:Nat):Int)).toNat []) rfl (by rw[List.length_replicate];omega) h
 unfold gsplitP gsplit
 simp only[val_cut,val_lt,val_cnt,val_ob,val_br,val_ix,val_as,val_ret,thenS_inl,hn,hc,dot_len]
 rw[show(((Lib.countByte s 46:Nat):Int) - 0).toNat=Lib.countByte s 46 by omega]
 have h1':(forN gsBody gsFin (Lib.countByte s 46) 0 (s,List.replicate (((Lib.countByte s 46+1:Nat):Int)).toNat []):(List UInt8×Int×List Str)⊕List Str)= .inl (r',((0+Lib.countByte s 46:Nat):Int),a'):=h1
 refine(congrArg (fun x:(List UInt8×Int×List Str)⊕List Str=>thenS x _) h1').trans ?_
 rw[thenS_inl]
 have w:wrp .i64 (((0+Lib.countByte s 46:Nat):Int)+1)=((0+Lib.countByte s 46+1:Nat):Int):=wrp_next (by omega)
 dsimp only
 rw[w,Int.toNat_natCast,Int.toNat_natCast]
 rw[Nat.zero_add]at*
 rw[List.take_zero,List.nil_append]at h3
 rw[<-h3,List.take_set,List.take_add_one,List.getElem?_eq_getElem (by omega)]
 have hlt:(a'.take (Lib.countByte s 46)).length=Lib.countByte s 46:=by rw[List.length_take];omega
 simp only[Option.toList_some]
 rw[List.set_append_right _ _ (by omega),hlt,Nat.sub_self]
 rfl
def ssplit (s:Str):Pg (List Str):=
 .ob ((dotS=dotS/\(0:Int)=0/\(-1)=(-1))/\List.length s<=4294967296) (.ret (gsplitP s))
theorem ssplit_is (s:Str)(h:s.length<=4294967296):Is (ssplit s):=
 is_ob ⟨⟨rfl,rfl,rfl⟩,h⟩ is_ret
def e_ssplit:Ent Z:=entN Z [e_gsplit] [] (args (aCons (aLf cStr) (a1 (aLf cStr)))) (argsI (n:=8) rfl) (shr [.slot 0 false [none]] (l1 cd_Lstr)) [] Tryz.func59 Tryz.ntmps59 (by kernel_rfl) 1 rfl (fun a=>ssplit (a.1)) (fun a=>some ((a.2=dotS)/\((a.1).length<=4294967296))) (fun⟨s,p⟩ e h=>by have hf0:p=dotS:=h.1;subst hf0;show _=_;kernel_rfl) (fun a=>partsB 46 (a.1)) (fun a h=>⟨ssplit_is (a.1) h.2,gsplit_eq (a.1) h.2⟩)
def ifull (s:Str):Pg Bool:=
 .ob ([46]=dotS/\List.length s<=4294967296)
  (.as ((partsB 46 s).length<=9223372036854775807)
   (.each false ixI (partsB 46 s) []
    (fun(i1:Int) (a3:Str) (y2:Unit)=> .ix i1 (partsB 46 s).length (.br (!ipartP a3) (.ret (.inr false)) (.ret (.inl ()))))
    (fun(i1:Int) (y2:Unit)=> .ret (decide ((↑(List.length s):Int)<=120))) ()))
def ifullP (s:Str):Bool:=(ifull s).val
theorem ifull_is (s:Str)(h:s.length<=4294967296):Is (ifull s):=
 is_ob ⟨rfl,h⟩ (is_as fun _=>is_each (.inr (by omega)) (fun i1 y2 _ _=>is_ix (by omega) (by omega) (is_br (fun _=>is_ret) (fun _=>is_ret))) (fun y2 _=>is_ret))
def e_ifull:Ent Z:=entN Z [e_ipart,e_ssplit] [jS 2 (shp (fun sl=>[.slot 8 false [none]]) (l1 (cInt .i64)))] (args (a1 (aLf cStr))) (argsI (n:=19) rfl) (shr [.slot 0 false [none]] (l1 cBool)) [] Tryz.func28 Tryz.ntmps28 (by kernel_rfl) 1 rfl (fun a=>ifull a) (fun a=>some (a.length<=4294967296)) (fun a e _=>by kernel_rfl) (fun a=>ifullP a) (fun a h=>⟨ifull_is a h,rfl⟩)
theorem ifull_eq (s:Str):ifullP s=r6fullP s:=by
 unfold ifullP ifull
 simp only[val_ob,val_lt,val_as,val_each,val_ix,val_br,val_ret]
 rw[r6full_eq]
 have key:∀(l:List Str) (k:Nat),forE (fun(_:Nat) (a3:Str) (_:Unit)=>bif !ipartP a3 then(Sum.inr false:Unit⊕Bool)else .inl ()) (fun(_:Nat) (_:Unit)=>decide ((s.length:Int)<=120)) l k ()=(decide (s.length<=120) && l.all partB):=by
  intro l
  induction l with
  | nil=>intro k;show decide ((s.length:Int)<=120)=_;rw[List.all_nil,Bool.and_true];congr 1;rw[eq_iff_iff];omega
  | cons a l ih=>
   intro k
   unfold forE
   rw[ipart_eq,List.all_cons]
   cases partB a with
   | true=>exact ih (k+1)
   | false=>simp
 exact key _ 0
end
end Go.Proofs.YtiibcbmenoaigaaGreatDoor

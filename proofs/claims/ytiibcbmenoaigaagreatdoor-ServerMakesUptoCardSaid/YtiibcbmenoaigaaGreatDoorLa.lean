/- Server: the reference's methods, fields, handlers. -/
import Derived.Test.YtiibcbmenoaigaaGreatDoorL
namespace Go.Proofs.YtiibcbmenoaigaaGreatDoor
noncomputable section
open Go.RowKit Go.Vc
set_option linter.unusedVariables false
set_option linter.unusedSimpArgs false
set_option maxRecDepth 100000
def r14split (s:Str)(c:Int):Pg (List UInt8×List UInt8×Bool):=
 .each true ixI s 0
  (fun(i1:Int) (a3:UInt8) (y2:Unit)=>
   .ix i1 (List.length s)
    (.br ((↑a3.toNat:Int)==c)
     (.ob ((0:Int)<=0/\0<=i1/\i1<=(↑(List.length s):Int))
      (.lt (wrp .i64 (i1+1)) fun(v4:Int)=>
       .ob (0<=v4/\v4<=(↑(List.length s):Int)/\(↑(List.length s):Int)<=(↑(List.length s):Int))
        (.ret (.inr (List.take i1.toNat s,List.drop v4.toNat (List.take (List.length s) s),true)))))
     (.ret (.inl ()))))
  (fun(i1:Int) (y2:Unit)=> .ret (s,[],false)) ()
def r14splitP (s:Str)(c:Int):Str×Str×Bool:=(r14split s c).val
theorem r14split_is (s:Str)(c:Int):Is (r14split s c):=
 is_each (.inl rfl) (fun i1 y2 _ _=>is_ix (by omega) (by omega) (is_beq (fun _=>is_ob (by omega) (is_ltw fun v4 hv4 _=>is_ob (by omega) (is_ret))) (fun _=>is_ret))) (fun y2 _=>is_ret)
def e_r14split:Ent Z:=entN Z [] [jS 2 (shp (fun sl=>[.slot 7 false [none]]) (l1 (cInt .i64)))] (args (aCons (aLf cStr) (a1 (aLf (cInt .u8))))) (argsI (n:=27) rfl) (shr [.slot 0 false [none], .slot 1 false [none], .slot 2 false [none]] (lCons cStr (lCons cStr (l1 cBool)))) [] Tryz.func81 Tryz.ntmps81 (by kernel_rfl) 3 rfl (fun a=>r14split (a.1) (a.2)) (fun a=>none) (fun a e _=>by kernel_rfl) (fun a=>r14splitP (a.1) (a.2)) (fun a h=>⟨r14split_is (a.1) (a.2),rfl⟩)
def r14Service (s:Schema)(name:Str):Pg (Service×Bool):=
 .each true ixI s.Services d_Service
  (fun(i1:Int) (a3:Service) (y2:Unit)=>
   .ix i1 s.Services.length (.br (a3.Name==name) (.ix i1 s.Services.length (.ret (.inr (a3,true)))) (.ret (.inl ()))))
  (fun(i1:Int) (y2:Unit)=> .ret (Service.mk [] [] [],false)) ()
def r14ServiceP (s:Schema)(name:Str):Service×Bool:=(r14Service s name).val
theorem r14Service_is (s:Schema)(name:Str):Is (r14Service s name):=
 is_each (.inl rfl) (fun i1 y2 _ _=>is_ix (by omega) (by omega) (is_br (fun _=>is_ix (by omega) (by omega) (is_ret)) (fun _=>is_ret))) (fun y2 _=>is_ret)
def e_r14Service:Ent Z:=entN Z [] [jS 2 (shp (fun sl=>[.slot 6 false [none]]) (l1 (cInt .i64)))] (args (aCons (aAgg cd_Schema) (a1 (aLf cStr)))) (argsI (n:=28) rfl) (shr [.slot 0 true [none,none,none], .slot 1 false [none]] (lCons cd_Service (l1 cBool))) [] Tryz.func82 Tryz.ntmps82 (by kernel_rfl) 2 rfl (fun a=>r14Service (a.1) (a.2)) (fun a=>none) (fun a e _=>by kernel_rfl) (fun a=>r14ServiceP (a.1) (a.2)) (fun a h=>⟨r14Service_is (a.1) (a.2),rfl⟩)
def r14Method (s:Schema)(path:Str):Pg (AMethod×Bool):=
 .lt (r14splitP path 47) fun(v4:Str×Str×Bool)=>
  .br (!v4.snd.snd) (.ret (AMethod.mk [] [] [] 0 [],false))
   (.lt (r14ServiceP s v4.fst) fun(v5:Service×Bool)=>
    .each true ixI v5.fst.Methods d_AMethod
     (fun(i1:Int) (a3:AMethod) (y2:Unit)=>
      .ix i1 v5.fst.Methods.length (.br (a3.Name==v4.snd.fst) (.ix i1 v5.fst.Methods.length (.ret (.inr (a3,true)))) (.ret (.inl ()))))
     (fun(i1:Int) (y2:Unit)=> .ret (AMethod.mk [] [] [] 0 [],false)) ())
def r14MethodP (s:Schema)(path:Str):AMethod×Bool:=(r14Method s path).val
theorem r14Method_is (s:Schema)(path:Str):Is (r14Method s path):=
 is_lt fun v4 hv4=>is_br (fun _=>is_ret) (fun _=>is_lt fun v5 hv5=>is_each (.inl rfl) (fun i1 y2 _ _=>is_ix (by omega) (by omega) (is_br (fun _=>is_ix (by omega) (by omega) (is_ret)) (fun _=>is_ret))) (fun y2 _=>is_ret))
def e_r14Method:Ent Z:=entN Z [e_r14split,e_r14Service] [jS 6 (shp (fun sl=>[.slot 11 false [none]]) (l1 (cInt .i64)))] (args (aCons (aAgg cd_Schema) (a1 (aLf cStr)))) (argsI (n:=48) rfl) (shr [.slot 0 true [none,none,none,none,none], .slot 1 false [none]] (lCons cd_AMethod (l1 cBool))) [] Tryz.func38 Tryz.ntmps38 (by kernel_rfl) 2 rfl (fun a=>r14Method (a.1) (a.2)) (fun a=>none) (fun a e _=>by kernel_rfl) (fun a=>r14MethodP (a.1) (a.2)) (fun a h=>⟨r14Method_is (a.1) (a.2),rfl⟩)
def r13Message (s:Schema)(name:Str):Pg (Message×Int):=
 .each true ixI s.Messages d_Message
  (fun(i1:Int) (a3:Message) (y2:Unit)=> .ix i1 s.Messages.length (.br (a3.Name==name) (.ix i1 s.Messages.length (.ret (.inr (a3,i1)))) (.ret (.inl ()))))
  (fun(i1:Int) (y2:Unit)=> .ret (Message.mk [] [] [] [] [],(-1))) ()
def r13MessageP (s:Schema)(name:Str):Message×Int:=(r13Message s name).val
theorem r13Message_is (s:Schema)(name:Str):Is (r13Message s name):=
 is_each (.inl rfl) (fun i1 y2 _ _=>is_ix (by omega) (by omega) (is_br (fun _=>is_ix (by omega) (by omega) (is_ret)) (fun _=>is_ret))) (fun y2 _=>is_ret)
def e_r13Message:Ent Z:=entN Z [] [jS 2 (shp (fun sl=>[.slot 6 false [none]]) (l1 (cInt .i64)))] (args (aCons (aAgg cd_Schema) (a1 (aLf cStr)))) (argsI (n:=29) rfl) (shr [.slot 0 true [none,none,none,none,none], .slot 1 false [none]] (lCons cd_Message (l1 (cInt .i64)))) [] Tryz.func85 Tryz.ntmps85 (by kernel_rfl) 2 rfl (fun a=>r13Message (a.1) (a.2)) (fun a=>none) (fun a e _=>by kernel_rfl) (fun a=>r13MessageP (a.1) (a.2)) (fun a h=>⟨r13Message_is (a.1) (a.2),rfl⟩)
theorem ixFrom_snoc {A:Type}(p:A->Bool)(b:A):∀(l:List A) (k:Nat),ixFrom p (l++[b]) k=bif decide (0<=ixFrom p l k)then ixFrom p l k else bif p b then((k+l.length:Nat):Int)else -1
 | [],k=>by
  simp only[List.nil_append,ixFrom,List.length_nil,Nat.add_zero]
  cases p b<;>rfl
 | a::l,k=>by
  rw[List.cons_append]
  unfold ixFrom
  cases p a with
  | true=>simp
  | false=>
   simp only[cond_false]
   rw[ixFrom_snoc p b l (k+1)]
   rw[show k+1+l.length=k+(a::l).length by simp only[List.length_cons];omega]
theorem down_ix {c:UInt8}{s:List UInt8}{R:Type}{step:Int×Int->(Int×Int)⊕R}{F:Int->R}(hs:∀x:Int×Int,-1<=x.2->x.2 < s.length->step x=bif decide (0<=x.2)then .inl (bif s.getD x.2.toNat 0==c then x.2 else x.1,x.2 - 1)else .inr (F x.1))(r0:R):∀(n i:Nat) (at_:Int),i<=s.length->i < n->whN step r0 n (at_,(i:Int) - 1)=F (bif decide (0<=ixOf (fun x=>x==c) (s.take i))then ixOf (fun x=>x==c) (s.take i)else at_)
 | 0,i,at_,_,h=>by omega
 | n+1,0,at_,hi,h=>by
  unfold whN
  rw[hs _ (by show(-1:Int)<=((0:Nat):Int) - 1;omega) (by show((0:Nat):Int) - 1 < _;omega)]
  rfl
 | n+1,i+1,at_,hi,h=>by
  unfold whN
  have e1:(((i+1:Nat):Int) - 1)=(i:Int):=by omega
  rw[hs _ (by show(-1:Int)<=((i+1:Nat):Int) - 1;omega) (by show((i+1:Nat):Int) - 1 < _;omega)]
  simp only[e1,Int.toNat_natCast]
  rw[decide_eq_true (show(0:Int)<=(i:Int) by omega)]
  simp only[cond_true]
  rw[down_ix hs r0 n i _ (by omega) (by omega)]
  congr 1
  have ht:s.take (i+1)=s.take i++[s.getD i 0]:=by
   rw[List.take_add_one]
   congr 1
   simp[List.getD,show i < s.length by omega]
  rw[ht]
  unfold ixOf
  rw[ixFrom_snoc]
  have hl:((0+(s.take i).length:Nat):Int)=(i:Int):=by rw[List.length_take];omega
  rw[hl]
  by_cases h0:0<=ixFrom (fun x=>x==c) (s.take i) 0
  ·simp only[decide_eq_true h0,cond_true]
  ·simp only[decide_eq_false h0,cond_false]
   cases s.getD i 0==c with
   | true=>rw[cond_true,cond_true,decide_eq_true (show(0:Int)<=(i:Int) by omega)];rfl
   | false=>rfl
theorem byteI2 (c d:UInt8):((c.toNat:Int)==(d.toNat:Int))=(c==d):=by
 apply Bool.eq_iff_iff.2
 simp only[beq_iff_eq]
 constructor
 ·intro h;exact UInt8.toNat_inj.1 (by omega)
 ·rintro rfl;rfl
theorem down_at {path:Str}{R:Type}{F:Int->R}(h:path.length<=1048576){step:Int×Int->(Int×Int)⊕R}(hs:∀x:Int×Int,step x=bif decide (0<=x.2)then bif ((path.getD x.2.toNat 0).toNat:Int)==47 then .inl (x.2,wrp .i64 (x.2 - 1))else .inl (x.1,wrp .i64 (x.2 - 1))else .inr (F x.1))(r0:R):whN step r0 (path.length+1) (-1,wrp .i64 ((path.length:Int) - 1))=F (ixOf (fun x=>x==47) path):=by
 rw[wrp_in (k:= .i64) (show InR .i64 ((path.length:Int) - 1) by simp only[InR];omega)]
 rw[down_ix (c:=47) (F:=F) (fun x h1 h2=> ?_) r0 (path.length+1) path.length (-1) (Nat.le_refl _) (Nat.lt_succ_self _),List.take_length]
 ·have:=(ixOf_lt (fun(x:UInt8)=>x==47) path).2
  by_cases h0:0<=ixOf (fun x=>x==47) path
  ·rw[decide_eq_true h0];rfl
  ·rw[decide_eq_false h0,show ixOf (fun x=>x==47) path= -1 by omega];rfl
 ·rw[hs]
  by_cases h0:0<=x.2
  ·rw[decide_eq_true h0,wrp_in (k:= .i64) (show InR .i64 (x.2 - 1) by simp only[InR];omega),show(((path.getD x.2.toNat 0).toNat:Int)==47)=(path.getD x.2.toNat 0==47)from byteI2 _ 47]
   cases path.getD x.2.toNat 0==47<;>rfl
  ·rw[decide_eq_false h0];rfl
def r43Find (s:Schema)(path:Str):Pg (AMethod×Int):=
 .cut
  (fun(y4:Int)=>
   .br (decide (y4 < 0)) (.ret (AMethod.mk [] [] [] 0 [],2))
    (.ob ((0:Int)<=0/\0<=y4/\y4<=(↑(List.length path):Int))
     (.br (!r6fullP (List.take y4.toNat path)) (.ret (AMethod.mk [] [] [] 0 [],2))
      (.lt (wrp .i64 (y4+1)) fun(v5:Int)=>
       .ob (0<=v5/\v5<=(↑(List.length path):Int)/\(↑(List.length path):Int)<=(↑(List.length path):Int))
        (.br (!r6partP (List.drop v5.toNat (List.take (List.length path) path))) (.ret (AMethod.mk [] [] [] 0 [],2))
         (.lt (r14MethodP s path) fun(v6:AMethod×Bool)=> .br (!v6.snd) (.ret (AMethod.mk [] [] [] 0 [],10)) (.ret (v6.fst,0))))))))
  (.lt (wrp .i64 ((↑(List.length path):Int) - 1)) fun(v7:Int)=>
   .wh (path.length+1) default
    (fun(x3:Int×Int)=>
     .br (decide (0<=x3.snd))
      (.ix x3.snd (List.length path)
       (.lt (wrp .i64 (x3.snd - 1)) fun(v8:Int)=>
        .br ((↑(List.getD path x3.snd.toNat 0).toNat:Int)==47) (.ret (.inl (x3.snd,v8))) (.ret (.inl (x3.fst,v8)))))
      (.ret (.inr (.inl x3.fst))))
    ((-1),v7))
def r43FindP (s:Schema)(path:Str):AMethod×Int:=(r43Find s path).val
theorem r43Find_is (s:Schema)(path:Str)(h:path.length<=1048576):Is (r43Find s path):=
 by
 have hl:=ixOf_lt (fun(x:UInt8)=>x==47) path
 refine is_cut (is_ltw fun v7 hv7 h7=>is_wh (fun(x:Int×Int)=> -1<=x.2/\x.2 < path.length) (fun(x:Int×Int)=>(x.2+1).toNat) ⟨by show -1<=v7;omega,by show v7 < _;omega⟩ (by show(v7+1).toNat < _;omega) (fun x hx=>⟨is_brd (fun _=>is_ix (by omega) (by omega) (is_lt fun v8 hv8=>is_beq (fun _=>is_ret) (fun _=>is_ret))) (fun _=>is_ret),fun x' hx'=> ?_⟩)) (fun y4 hy4=> ?_)
 ·revert hx'
  simp only[val_ix,val_br,val_lt,val_ret,Bool.cond_eq_ite,decide_eq_true_eq]
  have w:0<=x.2->wrp .i64 (x.2 - 1)=x.2 - 1:=fun _=>wrp_in (k:= .i64) (by simp only[InR];omega)
  (repeat' split)<;>intro e<;>cases e<;>simp only[w (by assumption)]<;>omega
 ·simp only[val_lt,val_wh,val_br,val_ix,val_ret]at hy4
  have e4:y4=ixOf (fun x=>x==47) path:=by
   rw[down_at (F:=fun(y:Int)=>(Sum.inl y:Int⊕(AMethod×Int))) h]at hy4
   ·exact(Sum.inl.inj hy4).symm
   ·exact fun x=>rfl
  refine is_brd (fun _=>is_ret) (fun _=>is_ob ⟨by omega,by omega,by omega⟩ (is_br (fun _=>is_ret) (fun _=>is_ltw fun v5 hv5 h5=>is_ob ⟨by omega,by omega,by omega⟩ (is_br (fun _=>is_ret) (fun _=>is_lt fun v6 hv6=>is_br (fun _=>is_ret) (fun _=>is_ret))))))
def e_r43Find:Ent Z:=entN Z [e_r6full,e_r6part,e_r14Method] [jS 3 (shp (fun sl=>[.slot 6 false [none], .slot 7 false [none]]) (lCons (cInt .i64) (l1 (cInt .i64)))),jS 100007 (shp (fun sl=>[.slot 6 false [none]]) (l1 (cInt .i64)))] (args (aCons (aAgg cd_Schema) (a1 (aLf cStr)))) (argsI (n:=50) rfl) (shr [.slot 0 true [none,none,none,none,none], .slot 1 false [none]] (lCons cd_AMethod (l1 (cInt .i64)))) [] Tryz.func18 Tryz.ntmps18 (by kernel_rfl) 2 rfl (fun a=>r43Find (a.1) (a.2)) (fun a=>some ((a.2).length<=1048576)) (fun a e _=>by kernel_rfl) (fun a=>r43FindP (a.1) (a.2)) (fun a h=>⟨r43Find_is (a.1) (a.2) h,rfl⟩)
def r43Streams (shape:Int):Pg (Bool×Bool):=
 .br (shape==3) (.br (shape==2) (.ret (true,true)) (.ret (true,shape==4)))
  (.br (shape==2) (.ret (shape==4,true)) (.ret (shape==4,shape==4)))
def r43StreamsP (shape:Int):Bool×Bool:=(r43Streams shape).val
theorem r43Streams_is (shape:Int):Is (r43Streams shape):=
 is_beq (fun _=>is_beq (fun _=>is_ret) (fun _=>is_ret)) (fun _=>is_beq (fun _=>is_ret) (fun _=>is_ret))
def e_r43Streams:Ent Z:=entN Z [] [] (args (a1 (aLf (cInt .i64)))) (argsI (n:=16) rfl) (shr [.slot 0 false [none], .slot 1 false [none]] (lCons cBool (l1 cBool))) [] Tryz.func41 Tryz.ntmps41 (by kernel_rfl) 2 rfl (fun a=>r43Streams a) (fun a=>none) (fun a e _=>by kernel_rfl) (fun a=>r43StreamsP a) (fun a h=>⟨r43Streams_is a,rfl⟩)
def r52named (s:Str):Pg Bool:=
 .each true ixI s 0
  (fun(i1:Int) (a3:UInt8) (y2:Unit)=>
   .ix i1 (List.length s)
    (.br (decide ((↑a3.toNat:Int) < 97))
     (.ix i1 (List.length s)
      (.br (decide ((↑a3.toNat:Int) < 48)) (.ret (.inr false))
       (.ix i1 (List.length s) (.br (decide (57 < (↑a3.toNat:Int))) (.ret (.inr false)) (.ret (.inl ()))))))
     (.ix i1 (List.length s)
      (.br (decide (122 < (↑a3.toNat:Int)))
       (.ix i1 (List.length s)
        (.br (decide ((↑a3.toNat:Int) < 48)) (.ret (.inr false))
         (.ix i1 (List.length s) (.br (decide (57 < (↑a3.toNat:Int))) (.ret (.inr false)) (.ret (.inl ()))))))
       (.ret (.inl ()))))))
  (fun(i1:Int) (y2:Unit)=> .br (decide (1<=(↑(List.length s):Int))) (.ret (decide ((↑(List.length s):Int)<=40))) (.ret false)) ()
def r52namedP (s:Str):Bool:=(r52named s).val
theorem r52named_is (s:Str):Is (r52named s):=
 is_each (.inl rfl) (fun i1 y2 _ _=>is_ix (by omega) (by omega) (is_brd (fun _=>is_ix (by omega) (by omega) (is_brd (fun _=>is_ret) (fun _=>is_ix (by omega) (by omega) (is_brd (fun _=>is_ret) (fun _=>is_ret))))) (fun _=>is_ix (by omega) (by omega) (is_brd (fun _=>is_ix (by omega) (by omega) (is_brd (fun _=>is_ret) (fun _=>is_ix (by omega) (by omega) (is_brd (fun _=>is_ret) (fun _=>is_ret))))) (fun _=>is_ret))))) (fun y2 _=>is_brd (fun _=>is_ret) (fun _=>is_ret))
def e_r52named:Ent Z:=entN Z [] [jS 2 (shp (fun sl=>[.slot 3 false [none]]) (l1 (cInt .i64)))] (args (a1 (aLf cStr))) (argsI (n:=40) rfl) (shr [.slot 0 false [none]] (l1 cBool)) [] Tryz.func15 Tryz.ntmps15 (by kernel_rfl) 1 rfl (fun a=>r52named a) (fun a=>none) (fun a e _=>by kernel_rfl) (fun a=>r52namedP a) (fun a h=>⟨r52named_is a,rfl⟩)
def r52ranged (x:Handler):Pg Bool:=
 .br (decide (x.Cost < 0)) (.ret false)
  (.br (decide (1099511627776 < x.Cost)) (.ret false)
   (.cut (fun(y2:Unit)=> .br (x.Kind==5) (.br (decide (1<=x.Num)) (.ret (decide (x.Num<=13))) (.ret false)) (.ret false))
    (.cut
     (fun(y1:Bool)=>
      .br y1 (.ret (.inr (x.Num==0)))
       (.br (x.Kind==3) (.br (decide (1<=x.Num)) (.ret (.inr (decide (x.Num<=65535)))) (.ret (.inr false)))
        (.br (x.Kind==4) (.br (decide (0<=x.Num)) (.ret (.inr (decide (x.Num<=64)))) (.ret (.inr false))) (.ret (.inl ())))))
     (.br (x.Kind==1) (.ret (.inl (x.Kind==1))) (.ret (.inl (x.Kind==2)))))))
def r52rangedP (x:Handler):Bool:=(r52ranged x).val
theorem r52ranged_is (x:Handler):Is (r52ranged x):=
 is_brd (fun _=>is_ret) (fun _=>is_brd (fun _=>is_ret) (fun _=>is_cut (is_cut (is_beq (fun _=>is_ret) (fun _=>is_ret)) (fun y1 hy1=>is_br (fun _=>is_ret) (fun _=>is_beq (fun _=>is_brd (fun _=>is_ret) (fun _=>is_ret)) (fun _=>is_beq (fun _=>is_brd (fun _=>is_ret) (fun _=>is_ret)) (fun _=>is_ret))))) (fun y2 hy2=>is_beq (fun _=>is_brd (fun _=>is_ret) (fun _=>is_ret)) (fun _=>is_ret))))
def e_r52ranged:Ent Z:=entN Z [] [jS 100006 (shp (fun sl=>[.slot 13 false [none]]) (l1 cBool)),jS 100011 (shp (fun sl=>[]) l0)] (args (a1 (aAgg cd_Handler))) (argsI (n:=52) rfl) (shr [.slot 0 false [none]] (l1 cBool)) [] Tryz.func17 Tryz.ntmps17 (by kernel_rfl) 1 rfl (fun a=>r52ranged a) (fun a=>none) (fun a e _=>by kernel_rfl) (fun a=>r52rangedP a) (fun a h=>⟨r52ranged_is a,rfl⟩)
def r52field (s:Schema)(name:Str)(num:Int):Pg (AField×Bool):=
 .lt (r13MessageP s name) fun(v4:Message×Int)=>
  .each true ixI v4.fst.Fields d_AField
   (fun(i1:Int) (a3:AField) (y2:Unit)=>
    .ix i1 v4.fst.Fields.length
     (.br (a3.Num==num)
      (.ix i1 v4.fst.Fields.length (.ret (.inr (AField.mk a3.Num a3.Name a3.Card a3.Key a3.Type_ a3.Union a3.HasDefault a3.Default.re a3.Notes,true))))
      (.ret (.inl ()))))
   (fun(i1:Int) (y2:Unit)=> .ret (AField.mk 0 [] 0 0 (AType.mk 0 []) [] false (AVal.mk 0 0 [] [] [] [] []) [],false)) ()
def r52fieldP (s:Schema)(name:Str)(num:Int):AField×Bool:=(r52field s name num).val
theorem r52field_is (s:Schema)(name:Str)(num:Int):Is (r52field s name num):=
 is_lt fun v4 hv4=>is_each (.inl rfl) (fun i1 y2 _ _=>is_ix (by omega) (by omega) (is_beq (fun _=>is_ix (by omega) (by omega) (is_ret)) (fun _=>is_ret))) (fun y2 _=>is_ret)
def e_r52field:Ent Z:=entN Z [e_r13Message] [jS 3 (shp (fun sl=>[.slot 10 false [none]]) (l1 (cInt .i64)))] (args (aCons (aAgg cd_Schema) (aCons (aLf cStr) (a1 (aLf (cInt .i64)))))) (argsI (n:=38) rfl) (shr [.slot 0 true [none,none,none,none,none,none,none,none,none,none,none,none,none,none,none,none], .slot 1 false [none]] (lCons cd_AField (l1 cBool))) [] Tryz.func42 Tryz.ntmps42 (by kernel_rfl) 2 rfl (fun a=>r52field (a.1) (a.2.1) (a.2.2)) (fun a=>none) (fun a e _=>by kernel_rfl) (fun a=>r52fieldP (a.1) (a.2.1) (a.2.2)) (fun a h=>⟨r52field_is (a.1) (a.2.1) (a.2.2),rfl⟩)
def r52fits (s:Schema)(x:Handler):Pg Bool:=
 .ob (List.length x.Method<=1048576)
  (.lt (r43FindP s x.Method) fun(v1:AMethod×Int)=>
   .br (v1.snd !=0) (.ret false)
    (.br (!r52rangedP (Handler.mk x.Method x.Kind x.Num 0)) (.ret false)
     (.lt (r43StreamsP v1.fst.Shape) fun(v2:Bool×Bool)=>
      .br (x.Kind==2) (.ret !v2.snd)
       (.br (x.Kind==3)
        (.br (!v2.snd)
         (.lt (r52fieldP s v1.fst.Out x.Num) fun(v3:AField×Bool)=>
          .br v3.snd
           (.br (decide (v3.fst.Card<=3)) (.br (v3.fst.Type_.Kind==4) (.ret true) (.ret (v3.fst.Type_.Kind==5))) (.ret false))
           (.ret false))
         (.ret false))
        (.br (x.Kind==4) (.br v2.snd (.ret (v1.fst.In==v1.fst.Out)) (.ret false)) (.ret true))))))
def r52fitsP (s:Schema)(x:Handler):Bool:=(r52fits s x).val
theorem r52fits_is (s:Schema)(x:Handler)(h:x.Method.length<=1048576):Is (r52fits s x):=
 is_ob (by(try subst_vars);(try simp only[List.length_append,List.length_cons,List.length_nil]);omega) (is_lt fun v1 hv1=>is_bne (fun _=>is_ret) (fun _=>is_br (fun _=>is_ret) (fun _=>is_lt fun v2 hv2=>is_beq (fun _=>is_ret) (fun _=>is_beq (fun _=>is_br (fun _=>is_lt fun v3 hv3=>is_br (fun _=>is_brd (fun _=>is_beq (fun _=>is_ret) (fun _=>is_ret)) (fun _=>is_ret)) (fun _=>is_ret)) (fun _=>is_ret)) (fun _=>is_beq (fun _=>is_br (fun _=>is_ret) (fun _=>is_ret)) (fun _=>is_ret))))))
def e_r52fits:Ent Z:=entN Z [e_r52ranged,e_r43Find,e_r43Streams,e_r52field] [] (args (aCons (aAgg cd_Schema) (a1 (aAgg cd_Handler)))) (argsI (n:=81) rfl) (shr [.slot 0 false [none]] (l1 cBool)) [] Tryz.func20 Tryz.ntmps20 (by kernel_rfl) 1 rfl (fun a=>r52fits (a.1) (a.2)) (fun a=>some ((a.2).Method.length<=1048576)) (fun a e _=>by kernel_rfl) (fun a=>r52fitsP (a.1) (a.2)) (fun a h=>⟨r52fits_is (a.1) (a.2) h,rfl⟩)
end
end Go.Proofs.YtiibcbmenoaigaaGreatDoor

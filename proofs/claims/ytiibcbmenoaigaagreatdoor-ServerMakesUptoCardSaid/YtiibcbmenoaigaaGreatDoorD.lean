/- Server: texts. -/
import Derived.Test.YtiibcbmenoaigaaGreatDoorS
import Derived.Test.YtiibcbmenoaigaaGreatDoorU
namespace Go.Proofs.YtiibcbmenoaigaaGreatDoor
noncomputable section
open Go.RowKit Go.Vc
set_option linter.unusedVariables false
set_option linter.unusedSimpArgs false
set_option maxRecDepth 100000
def hasPre0 (s:Str)(p:Str):Pg Bool:=
 .br (decide ((↑(List.length p):Int)<=(↑(List.length s):Int)))
  (.ob ((0:Int)<=0/\0<=(↑(List.length p):Int)/\(↑(List.length p):Int)<=(↑(List.length s):Int))
   (.as (List.length s<=9223372036854775807)
    (.as (List.length p<=9223372036854775807) (.as (List.length p<=9223372036854775807) (.ret (List.take (List.length p) s==p))))))
  (.as (List.length s<=9223372036854775807) (.as (List.length p<=9223372036854775807) (.ret false)))
def hasPre0P (s:Str)(p:Str):Bool:=(hasPre0 s p).val
theorem hasPre0_is (s:Str)(p:Str):Is (hasPre0 s p):=
 is_brd (fun _=>is_ob (by omega) (is_as fun _=>is_as fun _=>is_as fun _=>is_ret)) (fun _=>is_as fun _=>is_as fun _=>is_ret)
def e_hasPre0:Ent Z:=entN Z [] [] (args (aCons (aLf cStr) (a1 (aLf cStr)))) (argsI (n:=18) rfl) (shr [.slot 0 false [none]] (l1 cBool)) [] Tryz.func362 Tryz.ntmps362 (by kernel_rfl) 1 rfl (fun a=>hasPre0 (a.1) (a.2)) (fun a=>none) (fun a e _=>by kernel_rfl) (fun a=>hasPre0P (a.1) (a.2)) (fun a h=>⟨hasPre0_is (a.1) (a.2),rfl⟩)
def hasPre (s:Str)(p:Str):Pg Bool:=
 .ret (hasPre0P s p)
def hasPreP (s:Str)(p:Str):Bool:=(hasPre s p).val
theorem hasPre_is (s:Str)(p:Str):Is (hasPre s p):=
 is_ret
def e_hasPre:Ent Z:=entN Z [e_hasPre0] [] (args (aCons (aLf cStr) (a1 (aLf cStr)))) (argsI (n:=8) rfl) (shr [.slot 0 false [none]] (l1 cBool)) [] Tryz.func262 Tryz.ntmps262 (by kernel_rfl) 1 rfl (fun a=>hasPre (a.1) (a.2)) (fun a=>none) (fun a e _=>by kernel_rfl) (fun a=>hasPreP (a.1) (a.2)) (fun a h=>⟨hasPre_is (a.1) (a.2),rfl⟩)
def wrong (s:Str)(at_:Int)(c:Int):Pg Bool:=
 .br (c==65533)
  (.ob (0<=at_/\at_<=(↑(List.length s):Int)/\(↑(List.length s):Int)<=(↑(List.length s):Int))
   (.ret !hasPreP (List.drop at_.toNat (List.take (List.length s) s)) [239,191,189]))
  (.ret false)
def wrongP (s:Str)(at_:Int)(c:Int):Bool:=(wrong s at_ c).val
theorem wrong_is (s:Str)(at_:Int)(c:Int)(h:0<=at_/\at_<=s.length):Is (wrong s at_ c):=
 is_beq (fun _=>is_ob (by omega) (is_ret)) (fun _=>is_ret)
def e_wrong:Ent Z:=entN Z [e_hasPre] [] (args (aCons (aLf cStr) (aCons (aLf (cInt .i64)) (a1 (aLf (cInt .i32)))))) (argsI (n:=16) rfl) (shr [.slot 0 false [none]] (l1 cBool)) [] Tryz.func192 Tryz.ntmps192 (by kernel_rfl) 1 rfl (fun a=>wrong (a.1) (a.2.1) (a.2.2)) (fun a=>some (0<=(a.2.1)/\(a.2.1)<=(a.1).length)) (fun a e _=>by kernel_rfl) (fun a=>wrongP (a.1) (a.2.1) (a.2.2)) (fun a h=>⟨wrong_is (a.1) (a.2.1) (a.2.2) h,rfl⟩)
def rbetween (s:Str)(i:Int)(lo:Int)(hi:Int):Pg Bool:=
 .br (decide (i < (↑(List.length s):Int)))
  (.ix i (List.length s)
   (.br (decide (lo<=(↑(List.getD s i.toNat 0).toNat:Int)))
    (.ix i (List.length s) (.as (List.length s<=9223372036854775807) (.ret (decide ((↑(List.getD s i.toNat 0).toNat:Int)<=hi)))))
    (.as (List.length s<=9223372036854775807) (.ret false))))
  (.as (List.length s<=9223372036854775807) (.ret false))
def rbetweenP (s:Str)(i:Int)(lo:Int)(hi:Int):Bool:=(rbetween s i lo hi).val
theorem rbetween_is (s:Str)(i:Int)(lo:Int)(hi:Int)(h:0<=i):Is (rbetween s i lo hi):=
 is_brd (fun _=>is_ix (by omega) (by omega) (is_brd (fun _=>is_ix (by omega) (by omega) (is_as fun _=>is_ret)) (fun _=>is_as fun _=>is_ret))) (fun _=>is_as fun _=>is_ret)
def e_rbetween:Ent Z:=entN Z [] [] (args (aCons (aLf cStr) (aCons (aLf (cInt .i64)) (aCons (aLf (cInt .u8)) (a1 (aLf (cInt .u8))))))) (argsI (n:=27) rfl) (shr [.slot 0 false [none]] (l1 cBool)) [] Tryz.func271 Tryz.ntmps271 (by kernel_rfl) 1 rfl (fun a=>rbetween (a.1) (a.2.1) (a.2.2.1) (a.2.2.2)) (fun a=>some (0<=(a.2.1))) (fun a e _=>by kernel_rfl) (fun a=>rbetweenP (a.1) (a.2.1) (a.2.2.1) (a.2.2.2)) (fun a h=>⟨rbetween_is (a.1) (a.2.1) (a.2.2.1) (a.2.2.2) h,rfl⟩)
def rtail (s:Str)(i:Int)(n:Int):Pg Bool:=
 .cnt ixI 0 n
  (fun(i1:Int) (y2:Unit)=>
   .lt (wrp .i64 (i+i1)) fun(v3:Int)=> .ob (0<=v3) (.br (!rbetweenP s v3 128 191) (.ret (.inr false)) (.ret (.inl ()))))
  (fun(i1:Int) (y2:Unit)=> .ret true) ()
def rtailP (s:Str)(i:Int)(n:Int):Bool:=(rtail s i n).val
theorem rtail_is (s:Str)(i:Int)(n:Int)(h:0<=i/\i<=s.length+1/\n<=3/\s.length<=9223372036854775700):Is (rtail s i n):=
 is_cnt (by omega) (by omega) (fun i1 y2 _ _=>is_ltw fun v3 hv3 _=>is_ob (by omega) (is_br (fun _=>is_ret) (fun _=>is_ret))) (fun i1 y2 _ _=>is_ret)
def e_rtail:Ent Z:=entN Z [e_rbetween] [jS 2 (shp (fun sl=>[.slot 7 false [none]]) (l1 (cInt .i64)))] (args (aCons (aLf cStr) (aCons (aLf (cInt .i64)) (a1 (aLf (cInt .i64)))))) (argsI (n:=19) rfl) (shr [.slot 0 false [none]] (l1 cBool)) [] Tryz.func270 Tryz.ntmps270 (by kernel_rfl) 1 rfl (fun a=>rtail (a.1) (a.2.1) (a.2.2)) (fun a=>some (0<=(a.2.1)/\(a.2.1)<=(a.1).length+1/\(a.2.2)<=3/\(a.1).length<=9223372036854775700)) (fun a e _=>by kernel_rfl) (fun a=>rtailP (a.1) (a.2.1) (a.2.2)) (fun a h=>⟨rtail_is (a.1) (a.2.1) (a.2.2) h,rfl⟩)
def rsize (s:Str)(i:Int):Pg Int:=
 .ix i (List.length s)
  (.br (decide ((↑(List.getD s i.toNat 0).toNat:Int) < 128)) (.ret 1)
   (.lt (wrp .i64 (i+1)) fun(v6:Int)=>
    .cut
     (fun(y1:Bool)=>
      .br y1 (.ret 2)
       (.lt (rtailP s (wrp .i64 (i+2)) 1) fun(v7:Bool)=>
        .lt (wrp .i64 (i+2)) fun(v8:Int)=>
         .cut
          (fun(y2:Bool)=>
           .br y2 (.ret 3)
            (.cut
             (fun(y3:Bool)=>
              .br y3 (.ret 3)
               (.cut
                (fun(y4:Bool)=>
                 .br y4 (.ret 3)
                  (.lt (rtailP s v8 2) fun(v9:Bool)=>
                   .cut
                    (fun(y5:Bool)=>
                     .br y5 (.ret 4)
                      (.lt (rbetweenP s v6 128 143) fun(v10:Bool)=>
                       .br (decide (241<=(↑(List.getD s i.toNat 0).toNat:Int)))
                        (.br (decide ((↑(List.getD s i.toNat 0).toNat:Int)<=243))
                         (.ob
                          (0<=v6/\v6<=(↑(List.length s):Int)+1/\(3:Int)<=3/\List.length s<=9223372036854775700)
                          (.br (rtailP s v6 3) (.ret 4)
                           (.br ((↑(List.getD s i.toNat 0).toNat:Int)==244)
                            (.ob (0<=v6)
                             (.br v10
                              (.ob
                               (0<=v8/\
                                v8<=(↑(List.length s):Int)+1/\(2:Int)<=3/\List.length s<=9223372036854775700)
                               (.br v9 (.ret 4) (.ret 0)))
                              (.ret 0)))
                            (.ret 0))))
                         (.br ((↑(List.getD s i.toNat 0).toNat:Int)==244)
                          (.ob (0<=v6)
                           (.br v10
                            (.ob
                             (0<=v8/\
                              v8<=(↑(List.length s):Int)+1/\(2:Int)<=3/\List.length s<=9223372036854775700)
                             (.br v9 (.ret 4) (.ret 0)))
                            (.ret 0)))
                          (.ret 0)))
                        (.br ((↑(List.getD s i.toNat 0).toNat:Int)==244)
                         (.ob (0<=v6)
                          (.br v10
                           (.ob
                            (0<=v8/\
                             v8<=(↑(List.length s):Int)+1/\(2:Int)<=3/\List.length s<=9223372036854775700)
                            (.br v9 (.ret 4) (.ret 0)))
                           (.ret 0)))
                         (.ret 0))))
                    (.br ((↑(List.getD s i.toNat 0).toNat:Int)==240)
                     (.ob (0<=v6)
                      (.br (rbetweenP s v6 144 191)
                       (.ob
                        (0<=v8/\v8<=(↑(List.length s):Int)+1/\(2:Int)<=3/\List.length s<=9223372036854775700)
                        (.ret (.inl v9)))
                       (.ret (.inl false))))
                     (.ret (.inl false)))))
                (.br (decide (225<=(↑(List.getD s i.toNat 0).toNat:Int)))
                 (.br (decide ((↑(List.getD s i.toNat 0).toNat:Int)<=239))
                  (.br ((↑(List.getD s i.toNat 0).toNat:Int) !=237)
                   (.ob (0<=v6/\v6<=(↑(List.length s):Int)+1/\(2:Int)<=3/\List.length s<=9223372036854775700)
                    (.ret (.inl (rtailP s v6 2))))
                   (.ret (.inl false)))
                  (.ret (.inl false)))
                 (.ret (.inl false)))))
             (.br ((↑(List.getD s i.toNat 0).toNat:Int)==237)
              (.ob (0<=v6)
               (.br (rbetweenP s v6 128 159)
                (.ob (0<=v8/\v8<=(↑(List.length s):Int)+1/\(1:Int)<=3/\List.length s<=9223372036854775700)
                 (.ret (.inl v7)))
                (.ret (.inl false))))
              (.ret (.inl false)))))
          (.br ((↑(List.getD s i.toNat 0).toNat:Int)==224)
           (.ob (0<=v6)
            (.br (rbetweenP s v6 160 191)
             (.ob (0<=v8/\v8<=(↑(List.length s):Int)+1/\(1:Int)<=3/\List.length s<=9223372036854775700)
              (.ret (.inl v7)))
             (.ret (.inl false))))
           (.ret (.inl false)))))
     (.br (decide (194<=(↑(List.getD s i.toNat 0).toNat:Int)))
      (.br (decide ((↑(List.getD s i.toNat 0).toNat:Int)<=223))
       (.ob (0<=v6/\v6<=(↑(List.length s):Int)+1/\(1:Int)<=3/\List.length s<=9223372036854775700)
        (.ret (.inl (rtailP s v6 1))))
       (.ret (.inl false)))
      (.ret (.inl false)))))
def rsizeP (s:Str)(i:Int):Int:=(rsize s i).val
theorem rsize_is (s:Str)(i:Int)(h:0<=i/\i < s.length/\s.length<=9223372036854775700):Is (rsize s i):=
 is_ix (by omega) (by omega) (is_brd (fun _=>is_ret) (fun _=>is_ltw fun v6 hv6 _=>is_cut (is_brd (fun _=>is_brd (fun _=>is_ob (by omega) (is_ret)) (fun _=>is_ret)) (fun _=>is_ret)) (fun y1 hy1=>is_br (fun _=>is_ret) (fun _=>is_lt fun v7 hv7=>is_ltw fun v8 hv8 _=>is_cut (is_beq (fun _=>is_ob (by omega) (is_br (fun _=>is_ob (by omega) (is_ret)) (fun _=>is_ret))) (fun _=>is_ret)) (fun y2 hy2=>is_br (fun _=>is_ret) (fun _=>is_cut (is_beq (fun _=>is_ob (by omega) (is_br (fun _=>is_ob (by omega) (is_ret)) (fun _=>is_ret))) (fun _=>is_ret)) (fun y3 hy3=>is_br (fun _=>is_ret) (fun _=>is_cut (is_brd (fun _=>is_brd (fun _=>is_bne (fun _=>is_ob (by omega) (is_ret)) (fun _=>is_ret)) (fun _=>is_ret)) (fun _=>is_ret)) (fun y4 hy4=>is_br (fun _=>is_ret) (fun _=>is_lt fun v9 hv9=>is_cut (is_beq (fun _=>is_ob (by omega) (is_br (fun _=>is_ob (by omega) (is_ret)) (fun _=>is_ret))) (fun _=>is_ret)) (fun y5 hy5=>is_br (fun _=>is_ret) (fun _=>is_lt fun v10 hv10=>is_brd (fun _=>is_brd (fun _=>is_ob (by omega) (is_br (fun _=>is_ret) (fun _=>is_beq (fun _=>is_ob (by omega) (is_br (fun _=>is_ob (by omega) (is_br (fun _=>is_ret) (fun _=>is_ret))) (fun _=>is_ret))) (fun _=>is_ret)))) (fun _=>is_beq (fun _=>is_ob (by omega) (is_br (fun _=>is_ob (by omega) (is_br (fun _=>is_ret) (fun _=>is_ret))) (fun _=>is_ret))) (fun _=>is_ret))) (fun _=>is_beq (fun _=>is_ob (by omega) (is_br (fun _=>is_ob (by omega) (is_br (fun _=>is_ret) (fun _=>is_ret))) (fun _=>is_ret))) (fun _=>is_ret))))))))))))))
def e_rsize:Ent Z:=entN Z [e_rtail,e_rbetween] [jS 100005 (shp (fun sl=>[.slot 12 false [none]]) (l1 cBool)),jS 100007 (shp (fun sl=>[.slot 25 false [none]]) (l1 cBool)),jS 100009 (shp (fun sl=>[.slot 40 false [none]]) (l1 cBool)),jS 100011 (shp (fun sl=>[.slot 55 false [none]]) (l1 cBool)),jS 100013 (shp (fun sl=>[.slot 72 false [none]]) (l1 cBool))] (args (aCons (aLf cStr) (a1 (aLf (cInt .i64))))) (argsI (n:=115) rfl) (shr [.slot 0 false [none]] (l1 (cInt .i64))) [] Tryz.func200 Tryz.ntmps200 (by kernel_rfl) 1 rfl (fun a=>rsize (a.1) (a.2)) (fun a=>some (0<=(a.2)/\(a.2) < (a.1).length/\(a.1).length<=9223372036854775700)) (fun a e _=>by kernel_rfl) (fun a=>rsizeP (a.1) (a.2)) (fun a h=>⟨rsize_is (a.1) (a.2) h,rfl⟩)
theorem rbetween_eq (s:Str)(p:Nat)(lo hi:Nat):rbetweenP s (p:Int) (lo:Int) (hi:Int)=(isAt s p && (decide (lo<=byteAt s p) && decide (byteAt s p<=hi))):=by
 unfold rbetweenP rbetween isAt byteAt
 simp only[val_br,val_ix,val_as,val_ret,Int.toNat_natCast,Int.ofNat_lt,Int.ofNat_le]
 cases decide (p < List.length s)<;>cases decide (lo<=(s.getD p 0).toNat)<;>rfl
theorem rtail_eq (s:Str)(p:Nat)(h:p+3 < 9223372036854775808):rtailP s (p:Int) 1=onAt s p/\rtailP s (p:Int) 2=(onAt s p && onAt s (p+1))/\rtailP s (p:Int) 3=(onAt s p && (onAt s (p+1) && onAt s (p+2))):=by
 have w:∀k:Nat,k < 3->wrp .i64 ((p:Int)+(k:Int))=((p+k:Nat):Int):=fun k hk=>by
  rw[wrp_in (k:= .i64) (by simp only[InR];omega)];omega
 have e:∀k:Nat,k < 3->rbetweenP s (wrp .i64 ((p:Int)+(k:Int))) 128 191=onAt s (p+k):=fun k hk=>by
  rw[w k hk];exact rbetween_eq s (p+k) 128 191
 have e0:=e 0 (by omega)
 have e1:=e 1 (by omega)
 have e2:=e 2 (by omega)
 unfold rtailP rtail
 simp only[val_cnt,val_lt,val_ob,val_br,val_ret]
 simp only[show((0:Nat):Int)=0 from rfl,show((1:Nat):Int)=1 from rfl,show((2:Nat):Int)=2 from rfl]at e0 e1 e2
 have z1:((1:Int) - 0).toNat=0+1:=rfl
 have z2:((2:Int) - 0).toNat=0+1+1:=rfl
 have z3:((3:Int) - 0).toNat=0+1+1+1:=rfl
 have o1:(0:Int)+1=1:=rfl
 have o2:(1:Int)+1=2:=rfl
 refine⟨?_,?_,?_⟩
 ·rw[z1]
  simp only[forN_unit,forN_zero,o1,o2,e0,e1,e2]
  cases onAt s p<;>rfl
 ·rw[z2]
  simp only[forN_unit,forN_zero,o1,o2,e0,e1,e2]
  cases onAt s p<;>cases onAt s (p+1)<;>rfl
 ·rw[z3]
  simp only[forN_unit,forN_zero,o1,o2,e0,e1,e2]
  cases onAt s p<;>cases onAt s (p+1)<;>cases onAt s (p+2)<;>rfl
set_option maxHeartbeats 4000000 in
theorem rsize_eq (s:Str)(p:Nat)(h:p+10 < 9223372036854775808):rsizeP s (p:Int)=szN (byteAt s p) (byteAt s (p+1)) (isAt s (p+1)) (onAt s (p+1)) (onAt s (p+2)) (onAt s (p+3)):=by
 have w1:wrp .i64 ((p:Int)+1)=((p+1:Nat):Int):=by rw[wrp_in (k:= .i64) (by simp only[InR];omega)];omega
 have w2:wrp .i64 ((p:Int)+2)=((p+2:Nat):Int):=by rw[wrp_in (k:= .i64) (by simp only[InR];omega)];omega
 obtain⟨a1,a2,a3⟩:=rtail_eq s (p+1) (by omega)
 obtain⟨d1,d2,_⟩:=rtail_eq s (p+2) (by omega)
 have r1:=fun lo hi=>rbetween_eq s (p+1) lo hi
 have r160:=r1 160 191
 have r128:=r1 128 159
 have r144:=r1 144 191
 have r143:=r1 128 143
 simp only[show((160:Nat):Int)=160 from rfl,show((191:Nat):Int)=191 from rfl,show((128:Nat):Int)=128 from rfl,show((159:Nat):Int)=159 from rfl,show((144:Nat):Int)=144 from rfl,show((143:Nat):Int)=143 from rfl]at r160 r128 r144 r143
 unfold rsizeP rsize
 simp only[val_ix,val_br,val_ob,val_lt,val_cut,val_ret,w1,w2,a1,a2,a3,d1,d2,r160,r128,r144,r143,Int.toNat_natCast,<-byteAt.eq_1]
 generalize byteAt s p=b0
 generalize byteAt s (p+1)=b1
 generalize isAt s (p+1)=i1
 generalize onAt s (p+1)=c1
 generalize onAt s (p+2)=c2
 generalize onAt s (p+3)=c3
 have k1:∀n:Nat,((b0:Int)==(n:Int))=decide (b0=n):=fun n=>by rw[Bool.eq_iff_iff];simp only[beq_iff_eq,decide_eq_true_eq];omega
 have k2:∀n:Nat,((b0:Int) !=(n:Int))=decide (b0≠n):=fun n=>by rw[Bool.eq_iff_iff];simp only[bne_iff_ne,decide_eq_true_eq];omega
 have k3:∀n:Nat,decide ((b0:Int) < (n:Int))=decide (b0 < n):=fun n=>by congr 1;rw[eq_iff_iff];omega
 have k4:∀n:Nat,decide ((b0:Int)<=(n:Int))=decide (b0<=n):=fun n=>by congr 1;rw[eq_iff_iff];omega
 have k5:∀n:Nat,decide ((n:Int)<=(b0:Int))=decide (n<=b0):=fun n=>by congr 1;rw[eq_iff_iff];omega
 have s3:=fun(n:Nat)=>k3 n
 simp only[show(128:Int)=((128:Nat):Int)from rfl,show(194:Int)=((194:Nat):Int)from rfl,show(223:Int)=((223:Nat):Int)from rfl,show(224:Int)=((224:Nat):Int)from rfl,show(237:Int)=((237:Nat):Int)from rfl,show(225:Int)=((225:Nat):Int)from rfl,
  show(239:Int)=((239:Nat):Int)from rfl,show(240:Int)=((240:Nat):Int)from rfl,show(241:Int)=((241:Nat):Int)from rfl,show(243:Int)=((243:Nat):Int)from rfl,show(244:Int)=((244:Nat):Int)from rfl,k1,k2,k3,k4,k5,thenS_cond,thenS_inl,cond_true,cond_false]
 unfold szN
 clear a1 a2 a3 d1 d2 w1 w2 r1 r160 r128 r144 r143 k1 k2 k3 k4 k5 s3 h
 cases c1<;>cases c2<;>cases c3<;>cases i1<;>simp only[Bool.true_and,Bool.false_and,Bool.and_false,Bool.and_true,Bool.and_self,cond_true,cond_false,Bool.cond_self,Bool.cond_decide,Bool.false_eq_true,and_true,and_false,true_and,false_and,if_false,<-Bool.decide_and]<;>(repeat' split)<;>first | rfl | omega
end
end Go.Proofs.YtiibcbmenoaigaaGreatDoor

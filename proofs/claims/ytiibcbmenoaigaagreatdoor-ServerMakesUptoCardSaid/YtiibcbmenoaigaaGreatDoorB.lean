/- Server: small functions. -/
import Derived.Test.YtiibcbmenoaigaaGreatDoorA
namespace Go.Proofs.YtiibcbmenoaigaaGreatDoor
noncomputable section
open Go.RowKit Go.Vc
set_option linter.unusedVariables false
set_option linter.unusedSimpArgs false
set_option maxRecDepth 100000
def action (x:Icept):Pg (Option Ifc):=
 .br (x.Kind==1) (.ret (some (Ifc.mk 144 true [Pv.str x.Key,Pv.str x.Val])))
  (.br (x.Kind==2) (.ret (some (Ifc.mk 148 true [Pv.int .i64 x.Num])))
   (.br (x.Kind==3) (.ret (some (Ifc.mk 151 true [Pv.int .i64 x.Num,Pv.int .i64 x.Span])))
    (.br (x.Kind==4) (.ret (some (Ifc.mk 145 true [Pv.str x.Key,Pv.str x.Val])))
     (.br (x.Kind==5) (.ret (some (Ifc.mk 153 true [Pv.int .i64 x.Num])))
      (.br (x.Kind==6) (.ret (some (Ifc.mk 155 true []))) (.ret none))))))
def actionP (x:Icept):Option Ifc:=(action x).val
theorem action_is (x:Icept):Is (action x):=
 is_beq (fun _=>is_ret) (fun _=>is_beq (fun _=>is_ret) (fun _=>is_beq (fun _=>is_ret) (fun _=>is_beq (fun _=>is_ret) (fun _=>is_beq (fun _=>is_ret) (fun _=>is_beq (fun _=>is_ret) (fun _=>is_ret))))))
def e_action:Ent Z:=entN Z [] [] (args (a1 (aAgg cd_Icept))) (argsI (n:=45) rfl) (shr [.slot 0 false [none]] (l1 cIfc)) [] Tryz.func64 Tryz.ntmps64 (by kernel_rfl) 1 rfl (fun a=>action a) (fun a=>none) (fun a e _=>by kernel_rfl) (fun a=>actionP a) (fun a h=>⟨action_is a,rfl⟩)
def within (n:Int)(lo:Int)(hi:Int):Pg Bool:=
 .br (decide (lo<=n)) (.ret (decide (n<=hi))) (.ret false)
def withinP (n:Int)(lo:Int)(hi:Int):Bool:=(within n lo hi).val
theorem within_is (n:Int)(lo:Int)(hi:Int):Is (within n lo hi):=
 is_brd (fun _=>is_ret) (fun _=>is_ret)
def e_within:Ent Z:=entN Z [] [] (args (aCons (aLf (cInt .i64)) (aCons (aLf (cInt .i64)) (a1 (aLf (cInt .i64)))))) (argsI (n:=15) rfl) (shr [.slot 0 false [none]] (l1 cBool)) [] Tryz.func66 Tryz.ntmps66 (by kernel_rfl) 1 rfl (fun a=>within (a.1) (a.2.1) (a.2.2)) (fun a=>none) (fun a e _=>by kernel_rfl) (fun a=>withinP (a.1) (a.2.1) (a.2.2)) (fun a h=>⟨within_is (a.1) (a.2.1) (a.2.2),rfl⟩)
def bare (x:Icept)(key:Bool)(num:Bool)(span:Bool):Pg Bool:=
 .br key
  (.br num (.br span (.ret true) (.ret (x.Span==0))) (.br (x.Num==0) (.br span (.ret true) (.ret (x.Span==0))) (.ret false)))
  (.br (x.Key==[])
   (.br (x.Val==[])
    (.br num (.br span (.ret true) (.ret (x.Span==0))) (.br (x.Num==0) (.br span (.ret true) (.ret (x.Span==0))) (.ret false)))
    (.ret false))
   (.ret false))
def bareP (x:Icept)(key:Bool)(num:Bool)(span:Bool):Bool:=(bare x key num span).val
theorem bare_is (x:Icept)(key:Bool)(num:Bool)(span:Bool):Is (bare x key num span):=
 is_br (fun _=>is_br (fun _=>is_br (fun _=>is_ret) (fun _=>is_ret)) (fun _=>is_beq (fun _=>is_br (fun _=>is_ret) (fun _=>is_ret)) (fun _=>is_ret))) (fun _=>is_br (fun _=>is_br (fun _=>is_br (fun _=>is_br (fun _=>is_ret) (fun _=>is_ret)) (fun _=>is_beq (fun _=>is_br (fun _=>is_ret) (fun _=>is_ret)) (fun _=>is_ret))) (fun _=>is_ret)) (fun _=>is_ret))
def e_bare:Ent Z:=entN Z [] [] (args (aCons (aAgg cd_Icept) (aCons (aLf cBool) (aCons (aLf cBool) (a1 (aLf cBool)))))) (argsI (n:=36) rfl) (shr [.slot 0 false [none]] (l1 cBool)) [] Tryz.func65 Tryz.ntmps65 (by kernel_rfl) 1 rfl (fun a=>bare (a.1) (a.2.1) (a.2.2.1) (a.2.2.2)) (fun a=>none) (fun a e _=>by kernel_rfl) (fun a=>bareP (a.1) (a.2.1) (a.2.2.1) (a.2.2.2)) (fun a h=>⟨bare_is (a.1) (a.2.1) (a.2.2.1) (a.2.2.2),rfl⟩)
theorem act_ok (x:Icept):Ifc.ok (actionP x) 144 true [Value.string (ByteArray.mk #[]),Value.string (ByteArray.mk #[])]=true/\Ifc.ok (actionP x) 145 true [Value.string (ByteArray.mk #[]),Value.string (ByteArray.mk #[])]=true/\Ifc.ok (actionP x) 148 true [Value.int IntKind.i64 0]=true/\
  Ifc.ok (actionP x) 151 true [Value.int IntKind.i64 0,Value.int IntKind.i64 0]=true/\Ifc.ok (actionP x) 153 true [Value.int IntKind.i64 0]=true/\Ifc.ok (actionP x) 155 true []=true:=by
 unfold actionP action
 simp only[val_br,val_ret]
 cases x.Kind==1<;>cases x.Kind==2<;>cases x.Kind==3<;>cases x.Kind==4<;>cases x.Kind==5<;>cases x.Kind==6<;>exact⟨rfl,rfl,rfl,rfl,rfl,rfl⟩
def formed (x:Icept):Pg Bool:=
 .lt (actionP x) fun(v1:Option Ifc)=>
  .ob (Ifc.ok v1 144 true [Value.string (ByteArray.mk (Array.mk [])),Value.string (ByteArray.mk (Array.mk []))]=true)
   (.ob (Ifc.ok v1 145 true [Value.string (ByteArray.mk (Array.mk [])),Value.string (ByteArray.mk (Array.mk []))]=true)
    (.br (bif Ifc.is v1 144 then true else Ifc.is v1 145) (.ret (bareP x true false false))
     (.ob (Ifc.ok v1 148 true [Value.int .i64 0]=true)
      (.lt (bareP x false true false) fun(v2:Bool)=>
       .br (Ifc.is v1 148) (.br v2 (.ret (withinP x.Num 0 65536)) (.ret false))
        (.ob (Ifc.ok v1 151 true [Value.int .i64 0,Value.int .i64 0]=true)
         (.br (Ifc.is v1 151)
          (.br (bareP x false true true) (.br (withinP x.Num 1 1000) (.ret (withinP x.Span 1 1099511627776)) (.ret false))
           (.ret false))
          (.ob (Ifc.ok v1 153 true [Value.int .i64 0]=true)
           (.br (Ifc.is v1 153) (.br v2 (.ret (withinP x.Num 1 1099511627776)) (.ret false))
            (.ob (Ifc.ok v1 155 true []=true) (.br (Ifc.is v1 155) (.ret (bareP x false false false)) (.ret false)))))))))))
def formedP (x:Icept):Bool:=(formed x).val
theorem formed_is (x:Icept):Is (formed x):=
 is_lt fun v1 hv1=>is_ob ((hv1▸act_ok x).1) (is_ob ((hv1▸act_ok x).2.1) (is_br (fun _=>is_ret) (fun _=>is_ob ((hv1▸act_ok x).2.2.1) (is_lt fun v2 hv2=>is_br (fun _=>is_br (fun _=>is_ret) (fun _=>is_ret)) (fun _=>is_ob ((hv1▸act_ok x).2.2.2.1) (is_br (fun _=>is_br (fun _=>is_br (fun _=>is_ret) (fun _=>is_ret)) (fun _=>is_ret)) (fun _=>is_ob ((hv1▸act_ok x).2.2.2.2.1) (is_br (fun _=>is_br (fun _=>is_ret) (fun _=>is_ret)) (fun _=>is_ob ((hv1▸act_ok x).2.2.2.2.2) (is_br (fun _=>is_ret) (fun _=>is_ret)))))))))))
def e_formed:Ent Z:=entN Z [e_action,e_bare,e_within] [] (args (a1 (aAgg cd_Icept))) (argsI (n:=54) rfl) (shr [.slot 0 false [none]] (l1 cBool)) [] Tryz.func31 Tryz.ntmps31 (by kernel_rfl) 1 rfl (fun a=>formed a) (fun a=>none) (fun a e _=>by kernel_rfl) (fun a=>formedP a) (fun a h=>⟨formed_is a,rfl⟩)
def rfields (x:Icept):Pg Bool:=
 .br (x.Key==[])
  (.cut
   (fun(y1:Bool)=>
    .br y1 (.br (x.Num==0) (.ret (x.Span==0)) (.ret false))
     (.br (x.Kind==2)
      (.br (x.Val==[]) (.br (decide (0<=x.Num)) (.br (decide (x.Num<=65536)) (.ret (x.Span==0)) (.ret false)) (.ret false))
       (.ret false))
      (.br (x.Kind==3)
       (.br (x.Val==[])
        (.br (decide (1<=x.Num))
         (.br (decide (x.Num<=1000)) (.br (decide (1<=x.Span)) (.ret (decide (x.Span<=1099511627776))) (.ret false)) (.ret false))
         (.ret false))
        (.ret false))
       (.br (x.Kind==5)
        (.br (x.Val==[])
         (.br (decide (1<=x.Num)) (.br (decide (x.Num<=1099511627776)) (.ret (x.Span==0)) (.ret false)) (.ret false)) (.ret false))
        (.br (x.Kind==6) (.br (x.Val==[]) (.br (x.Num==0) (.ret (x.Span==0)) (.ret false)) (.ret false)) (.ret false))))))
   (.br (x.Kind==1) (.ret (.inl (x.Kind==1))) (.ret (.inl (x.Kind==4)))))
  (.cut
   (fun(y2:Bool)=>
    .br y2 (.br (x.Num==0) (.ret (x.Span==0)) (.ret false))
     (.br (x.Kind==2) (.ret false)
      (.br (x.Kind==3) (.ret false) (.br (x.Kind==5) (.ret false) (.br (x.Kind==6) (.ret false) (.ret false))))))
   (.br (x.Kind==1) (.ret (.inl (x.Kind==1))) (.ret (.inl (x.Kind==4)))))
def rfieldsP (x:Icept):Bool:=(rfields x).val
theorem rfields_is (x:Icept):Is (rfields x):=
 is_br (fun _=>is_cut (is_beq (fun _=>is_ret) (fun _=>is_ret)) (fun y1 hy1=>is_br (fun _=>is_beq (fun _=>is_ret) (fun _=>is_ret)) (fun _=>is_beq (fun _=>is_br (fun _=>is_brd (fun _=>is_brd (fun _=>is_ret) (fun _=>is_ret)) (fun _=>is_ret)) (fun _=>is_ret)) (fun _=>is_beq (fun _=>is_br (fun _=>is_brd (fun _=>is_brd (fun _=>is_brd (fun _=>is_ret) (fun _=>is_ret)) (fun _=>is_ret)) (fun _=>is_ret)) (fun _=>is_ret)) (fun _=>is_beq (fun _=>is_br (fun _=>is_brd (fun _=>is_brd (fun _=>is_ret) (fun _=>is_ret)) (fun _=>is_ret)) (fun _=>is_ret)) (fun _=>is_beq (fun _=>is_br (fun _=>is_beq (fun _=>is_ret) (fun _=>is_ret)) (fun _=>is_ret)) (fun _=>is_ret))))))) (fun _=>is_cut (is_beq (fun _=>is_ret) (fun _=>is_ret)) (fun y2 hy2=>is_br (fun _=>is_beq (fun _=>is_ret) (fun _=>is_ret)) (fun _=>is_beq (fun _=>is_ret) (fun _=>is_beq (fun _=>is_ret) (fun _=>is_beq (fun _=>is_ret) (fun _=>is_beq (fun _=>is_ret) (fun _=>is_ret)))))))
def e_rfields:Ent Z:=entN Z [] [jS 100005 (shp (fun sl=>[.slot 14 false [none]]) (l1 cBool))] (args (a1 (aAgg cd_Icept))) (argsI (n:=97) rfl) (shr [.slot 0 false [none]] (l1 cBool)) [] Tryz.func39 Tryz.ntmps39 (by kernel_rfl) 1 rfl (fun a=>rfields a) (fun a=>none) (fun a e _=>by kernel_rfl) (fun a=>rfieldsP a) (fun a h=>⟨rfields_is a,rfl⟩)
def rkey (s:Str):Pg Bool:=
 .br (decide ((↑(List.length s):Int) < 1)) (.ret false)
  (.br (decide (40 < (↑(List.length s):Int))) (.ret false)
   (.each true ixI s 0
    (fun(i1:Int) (a3:UInt8) (y2:Unit)=>
     .ix i1 (List.length s)
      (.br (decide ((↑a3.toNat:Int) < 97))
       (.ix i1 (List.length s)
        (.br (decide ((↑a3.toNat:Int) < 48)) (.ix i1 (List.length s) (.br ((↑a3.toNat:Int) !=45) (.ret (.inr false)) (.ret (.inl ()))))
         (.ix i1 (List.length s)
          (.br (decide (57 < (↑a3.toNat:Int)))
           (.ix i1 (List.length s) (.br ((↑a3.toNat:Int) !=45) (.ret (.inr false)) (.ret (.inl ())))) (.ret (.inl ()))))))
       (.ix i1 (List.length s)
        (.br (decide (122 < (↑a3.toNat:Int)))
         (.ix i1 (List.length s)
          (.br (decide ((↑a3.toNat:Int) < 48))
           (.ix i1 (List.length s) (.br ((↑a3.toNat:Int) !=45) (.ret (.inr false)) (.ret (.inl ()))))
           (.ix i1 (List.length s)
            (.br (decide (57 < (↑a3.toNat:Int)))
             (.ix i1 (List.length s) (.br ((↑a3.toNat:Int) !=45) (.ret (.inr false)) (.ret (.inl ())))) (.ret (.inl ()))))))
         (.ret (.inl ()))))))
    (fun(i1:Int) (y2:Unit)=> .ret true) ()))
def rkeyP (s:Str):Bool:=(rkey s).val
theorem rkey_is (s:Str):Is (rkey s):=
 is_brd (fun _=>is_ret) (fun _=>is_brd (fun _=>is_ret) (fun _=>is_each (.inl rfl) (fun i1 y2 _ _=>is_ix (by omega) (by omega) (is_brd (fun _=>is_ix (by omega) (by omega) (is_brd (fun _=>is_ix (by omega) (by omega) (is_bne (fun _=>is_ret) (fun _=>is_ret))) (fun _=>is_ix (by omega) (by omega) (is_brd (fun _=>is_ix (by omega) (by omega) (is_bne (fun _=>is_ret) (fun _=>is_ret))) (fun _=>is_ret))))) (fun _=>is_ix (by omega) (by omega) (is_brd (fun _=>is_ix (by omega) (by omega) (is_brd (fun _=>is_ix (by omega) (by omega) (is_bne (fun _=>is_ret) (fun _=>is_ret))) (fun _=>is_ix (by omega) (by omega) (is_brd (fun _=>is_ix (by omega) (by omega) (is_bne (fun _=>is_ret) (fun _=>is_ret))) (fun _=>is_ret))))) (fun _=>is_ret))))) (fun y2 _=>is_ret)))
def e_rkey:Ent Z:=entN Z [] [jS 4 (shp (fun sl=>[.slot 3 false [none]]) (l1 (cInt .i64)))] (args (a1 (aLf cStr))) (argsI (n:=46) rfl) (shr [.slot 0 false [none]] (l1 cBool)) [] Tryz.func83 Tryz.ntmps83 (by kernel_rfl) 1 rfl (fun a=>rkey a) (fun a=>none) (fun a e _=>by kernel_rfl) (fun a=>rkeyP a) (fun a h=>⟨rkey_is a,rfl⟩)
end
end Go.Proofs.YtiibcbmenoaigaaGreatDoor

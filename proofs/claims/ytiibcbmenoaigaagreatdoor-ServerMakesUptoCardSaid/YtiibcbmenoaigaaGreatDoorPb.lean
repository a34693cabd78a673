/- Server: the law ServerMakes. -/
import Derived.Test.YtiibcbmenoaigaaGreatDoorPa
namespace Go.Proofs.YtiibcbmenoaigaaGreatDoor
open Go.RowKit Go.Vc
set_option linter.unusedVariables false
set_option linter.unusedSimpArgs false
set_option maxRecDepth 100000
def okD (x:law52_Setup):Prop:=((∀m∈x.1.Messages,okM m)/\(∀e∈x.1.Enums,okE e)/\∀v∈x.1.Services,okSv v)/\((∀m∈x.1.Messages,okM2 m)/\(∀e∈x.1.Enums,okE2 e)/\∀v∈x.1.Services,okSv2 v)/\(∀y∈x.H,y.Method.length<=1048576)/\okIs x.L
noncomputable def law (name:Str)(x:law52_Setup):Pg Bool:=
 .br (!fewP x) (.ret true)
  (.ob (okNew x.1 x.H x.L)
   (.ob (okNew x.1 x.H x.L)
    (.lt (sNewP name x.1 x.H x.L x.Most) fun(v1:Server×Int)=>
     .lt (r52NewP name x.1 x.H x.L x.Most) fun(v2:Server×Int)=>
      .br (v1.snd==v2.snd)
       (.ob (v2.fst=v1.fst/\v1.fst.Handlers.length<=1048576/\v1.fst.Icepts.length<=1048576/\v1.fst.Tasks=[]/\v1.fst.Traces=[]) (.ret true))
       (.ret false))))
noncomputable def lawP (name:Str)(x:law52_Setup):Bool:=(law name x).val
theorem law_pre (x:law52_Setup)(h:okD x)(hf:fewP x=true):okNew x.1 x.H x.L/\okS2 x.1:=by
 obtain⟨⟨a1,a2,a3⟩,⟨b1,b2,b3⟩,c,d⟩:=h
 have hl:x.1.Messages.length<=8/\x.1.Enums.length<=8/\x.1.Services.length<=8/\x.H.length<=8/\x.L.length<=8:=by
  unfold fewP few at hf
  simp only[val_br,val_ret]at hf
  by_cases k1:(x.1.Messages.length:Int)<=8
  ·by_cases k2:(x.1.Enums.length:Int)<=8
   ·by_cases k3:(x.1.Services.length:Int)<=8
    ·by_cases k4:(x.H.length:Int)<=8
     ·rw[decide_eq_true k1,decide_eq_true k2,decide_eq_true k3,decide_eq_true k4]at hf
      have k5:(x.L.length:Int)<=8:=of_decide_eq_true hf
      omega
     ·rw[decide_eq_true k1,decide_eq_true k2,decide_eq_true k3,decide_eq_false k4]at hf;cases hf
    ·rw[decide_eq_true k1,decide_eq_true k2,decide_eq_false k3]at hf;cases hf
   ·rw[decide_eq_true k1,decide_eq_false k2]at hf;cases hf
  ·rw[decide_eq_false k1]at hf;cases hf
 have hs:okS x.1:=⟨by omega,by omega,by omega,a1,a2,a3⟩
 exact⟨⟨hs,c,d,by omega,by omega⟩,hs,b1,b2,b3⟩
theorem law_eq (name:Str)(x:law52_Setup)(h:okD x):lawP name x=true:=by
 unfold lawP law
 simp only[val_br,val_ob,val_lt,val_ret]
 cases hf:fewP x with
 | false=>rfl
 | true=>
  obtain⟨k1,k2⟩:=law_pre x h hf
  rw[new_eq name x.1 x.H x.L x.Most k1 k2,beq_self_eq_true]
  rfl
theorem lawIs (name:Str)(x:law52_Setup)(h:okD x):Is (law name x):=by
 refine is_br (fun _=>is_ret) (fun hf=> ?_)
 have hf:fewP x=true:=by simpa using hf
 obtain⟨k1,k2⟩:=law_pre x h hf
 refine is_ob k1 (is_ob k1 (is_lt fun v1 hv1=>is_lt fun v2 hv2=>is_beq (fun _=>is_ob ?_ is_ret) (fun _=>is_ret)))
 rw[hv1,hv2,new_eq name x.1 x.H x.L x.Most k1 k2]
 exact⟨rfl,new_parts name x.1 x.H x.L x.Most k1.2.2.2.1 k1.2.2.2.2⟩
theorem law_is (name:Str)(x:law52_Setup)(h:okD x):Is (law name x):=
 lawIs name x h
noncomputable def e_law:Ent Z:=entN Z [e_few,e_sNew,e_r52New,e_r52same,e_awake] [] (args (aCons (aLf cStr) (a1 (aAgg cd_law52_Setup)))) (argsI (n:=49) rfl) (shr [.slot 0 false [none]] (l1 cBool)) [] Tryz.func3 Tryz.ntmps3 (by kernel_rfl) 1 rfl (fun a=>law (a.1) (a.2)) (fun a=>some (okD (a.2))) (fun a e _=>by kernel_rfl) (fun a=>true) (fun a h=>⟨law_is (a.1) (a.2) h,law_eq (a.1) (a.2) h⟩)
end Go.Proofs.YtiibcbmenoaigaaGreatDoor

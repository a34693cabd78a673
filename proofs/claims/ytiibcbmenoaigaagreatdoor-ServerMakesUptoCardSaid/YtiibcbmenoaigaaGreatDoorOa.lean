/- Server: what is compared with itself is the same. -/
import Derived.Test.YtiibcbmenoaigaaGreatDoorO
namespace Go.Proofs.YtiibcbmenoaigaaGreatDoor
open Go.RowKit Go.Vc
set_option linter.unusedVariables false
set_option linter.unusedSimpArgs false
set_option maxRecDepth 100000
theorem stayE {A R:Type}{d:A}{b:Nat->A->Unit->Unit⊕R}{f:Nat->Unit->R}:∀(l:List A) (k:Nat),(∀j,j < l.length->b (k+j) (l.getD j d) ()= .inl ())->forE b f l k ()=f (k+l.length) ()
 | [],k,_=>rfl
 | a::l,k,h=>by
  unfold forE
  have h0:=h 0 (by simp)
  have e:(a::l).getD 0 d=a:=rfl
  rw[e,Nat.add_zero]at h0
  rw[h0]
  have:=stayE (d:=d) (f:=f) l (k+1) (fun j hj=>by
   have q:=h (j+1) (by simp;omega)
   rw[show k+(j+1)=k+1+j by omega]at q
   exact q)
  dsimp only
  rw[this,show k+1+l.length=k+(a::l).length by simp only[List.length_cons];omega]
theorem sv_refl:∀(fu:Nat) (v:AVal),nV v < fu->r9rV fu v v=true
 | 0,v,h=>by omega
 | fu+1,v,h=>by
  show(r9sv (r9rV fu) (r9svQ fu) v v).val=true
  unfold r9sv
  have hv:=nV_eq v
  simp only[val_br,val_ret,val_ob,val_as,val_each,val_ix,val_cut,AVal.re_eq,bne_self_eq_false,cond_false]
  rw[stayE (d:=d_AVal) v.List 0 (fun j hj=> ?_),thenS_inl,stayE (d:=d_Pair) v.Pairs 0 (fun j hj=> ?_),thenS_inl,stayE (d:=d_Slot) v.Slots 0 (fun j hj=> ?_),thenS_inl,stayE (d:=d_Raw) v.Raws 0 (fun j hj=> ?_)]
  ·have e:Int.toNat (↑(0+j):Int)=j:=by omega
   simp only[e]
   simp
  ·have e:Int.toNat (↑(0+j):Int)=j:=by omega
   have h1:=nSs_mem (getD_mem (d:=d_Slot) hj)
   have h2:=nS_eq (v.Slots.getD j d_Slot)
   simp only[e,bne_self_eq_false,cond_false,sv_refl fu (v.Slots.getD j d_Slot).Val (by omega),Bool.not_true]
  ·have e:Int.toNat (↑(0+j):Int)=j:=by omega
   have h1:=nPs_mem (getD_mem (d:=d_Pair) hj)
   have h2:=nP_eq (v.Pairs.getD j d_Pair)
   simp only[e,sv_refl fu (v.Pairs.getD j d_Pair).Key (by omega),sv_refl fu (v.Pairs.getD j d_Pair).Val (by omega),Bool.not_true,cond_false]
  ·have e:Int.toNat (↑(0+j):Int)=j:=by omega
   have h1:=nVs_mem (getD_mem (d:=d_AVal) hj)
   simp only[e,sv_refl fu (v.List.getD j d_AVal) (by omega),Bool.not_true,cond_false]
theorem svP_refl (v:AVal):r9svP v v=true:=sv_refl (nV v+1) v (Nat.lt_succ_self _)
theorem notes_refl (l:List Note):r9notesP l l=true:=by
 unfold r9notesP r9notes
 simp only[val_br,val_ret,val_as,val_each,val_ix,AVal.re_eq,bne_self_eq_false,cond_false]
 refine stayE (d:=d_Note) l 0 (fun j hj=> ?_)
 have e:Int.toNat (↑(0+j):Int)=j:=by omega
 simp only[e,bne_self_eq_false,cond_false,svP_refl,Bool.not_true]
theorem field_refl (f:AField):r9fieldP f f=true:=by
 unfold r9fieldP r9field
 simp only[val_br,val_ret,AVal.re_eq,beq_self_eq_true,cond_true,svP_refl,notes_refl]
theorem spans_refl (l:List Span):r9spansP l l=true:=by
 unfold r9spansP r9spans
 simp only[val_br,val_ret,val_as,val_each,val_ix,bne_self_eq_false,cond_false]
 refine stayE (d:=d_Span) l 0 (fun j hj=> ?_)
 have e:Int.toNat (↑(0+j):Int)=j:=by omega
 simp only[e,bne_self_eq_false,cond_false]
theorem texts_refl (l:List Str):r6textsP l l=true:=by
 unfold r6textsP r6texts
 simp only[val_br,val_ret,val_as,val_each,val_ix,bne_self_eq_false,cond_false]
 refine stayE (d:=[]) l 0 (fun j hj=> ?_)
 have e:Int.toNat (↑(0+j):Int)=j:=by omega
 simp only[e,bne_self_eq_false,cond_false]
theorem msg_refl (m:Message):r9msgP m m=true:=by
 unfold r9msgP r9msg
 simp only[val_br,val_ret,val_as,val_each,val_ix,bne_self_eq_false,cond_false,spans_refl,texts_refl,notes_refl,Bool.not_true,AVal.re_eq]
 refine stayE (d:=d_AField) m.Fields 0 (fun j hj=> ?_)
 have e:Int.toNat (↑(0+j):Int)=j:=by omega
 simp only[e,field_refl,Bool.not_true,cond_false]
theorem enum_refl (m:Enum):r9enumP m m=true:=by
 unfold r9enumP r9enum
 simp only[val_br,val_ret,val_as,val_each,val_ix,bne_self_eq_false,cond_false,spans_refl,texts_refl,notes_refl,Bool.not_true]
 refine stayE (d:=d_Item) m.Items 0 (fun j hj=> ?_)
 have e:Int.toNat (↑(0+j):Int)=j:=by omega
 simp only[e,bne_self_eq_false,notes_refl,Bool.not_true,cond_false]
theorem svc_refl (m:Service):r9svcP m m=true:=by
 unfold r9svcP r9svc
 simp only[val_br,val_ret,val_as,val_each,val_ix,bne_self_eq_false,cond_false,notes_refl,Bool.not_true]
 refine stayE (d:=d_AMethod) m.Methods 0 (fun j hj=> ?_)
 have e:Int.toNat (↑(0+j):Int)=j:=by omega
 simp only[e,bne_self_eq_false,notes_refl,Bool.not_true,cond_false]
theorem defs_refl (s:Schema):r15sameP s s=true:=by
 unfold r15sameP r15same r9defsP r9defs
 simp only[val_br,val_ret,val_as,val_each,val_ix,val_cut,bne_self_eq_false,cond_false]
 rw[stayE (d:=d_Message) s.Messages 0 (fun j hj=> ?_),thenS_inl,stayE (d:=d_Enum) s.Enums 0 (fun j hj=> ?_),thenS_inl,stayE (d:=d_Service) s.Services 0 (fun j hj=> ?_)]
 ·have e:Int.toNat (↑(0+j):Int)=j:=by omega
  simp only[e,svc_refl,Bool.not_true,cond_false]
 ·have e:Int.toNat (↑(0+j):Int)=j:=by omega
  simp only[e,enum_refl,Bool.not_true,cond_false]
 ·have e:Int.toNat (↑(0+j):Int)=j:=by omega
  simp only[e,msg_refl,Bool.not_true,cond_false]
theorem self_is {R:Type}{n:Nat}{p:Prop}{f:Int->Bool}{F:Bool->R}{r0:R}{b0:Bool}(hn:n<=9223372036854775807):Is (.wh (n+1) r0
    (fun(x3:Int×Bool)=>
     .br x3.snd
      (.as p
       (.br (decide (x3.fst < (↑n:Int)))
        (.ix x3.fst n (.ix x3.fst n (.ret (.inl (wrp .i64 (x3.fst+1),f x3.fst)))))
        (.ret (.inr (F x3.snd)))))
      (.ret (.inr (F x3.snd))))
    (0,b0):Pg R):=by
 refine is_wh (fun x=>0<=x.1/\x.1<=n) (fun x=>(n - x.1).toNat) ⟨by omega,by omega⟩ (by simp only[Int.sub_zero,Int.toNat_natCast];omega) fun x hx=>⟨is_br (fun e=>is_as fun _=>is_brd (fun h=>is_ix (by omega) (by omega) (is_ix (by omega) (by omega) is_ret)) fun _=>is_ret) fun _=>is_ret,?_⟩
 intro x' hx'
 simp only[val_br,val_as,val_ix,val_ret,Bool.cond_eq_ite,decide_eq_true_eq]at hx'
 split at hx'
 ·rename_i e
  split at hx'
  ·rename_i h
   injection hx' with hx'
   subst hx'
   have hw:wrp .i64 (x.1+1)=x.1+1:=wrp_in (k:= .i64) (by simp only[InR];omega)
   simp only[hw]
   exact⟨⟨by omega,by omega⟩,by omega⟩
  ·cases hx'
 ·cases hx'
theorem self_val {R:Type}{n:Nat}{f:Int->Bool}{F:Bool->R}{r0:R}(hn:n<=9223372036854775807)(hf:∀i:Int,f i=true):∀(m i:Nat),n - i < m->i<=n->whN (fun(x3:Int×Bool)=>bif x3.snd then(bif decide (x3.fst < (↑n:Int))then(Sum.inl (wrp .i64 (x3.fst+1),f x3.fst):(Int×Bool)⊕R)else .inr (F x3.snd))else .inr (F x3.snd)) r0 m ((i:Int),true)=F true
 | 0,i,h,_=>by omega
 | m+1,i,h,hi=>by
  unfold whN
  by_cases hlt:i < n
  ·have d0:decide (((i:Nat):Int) < (n:Int))=true:=decide_eq_true (by omega)
   have w:wrp .i64 (((i:Nat):Int)+1)=((i+1:Nat):Int):=wrp_next (by omega)
   simp only[d0,cond_true,w]
   rw[hf (i:Int)]
   exact self_val hn hf m (i+1) (by omega) (by omega)
  ·have d0:decide (((i:Nat):Int) < (n:Int))=false:=decide_eq_false (by omega)
   simp only[d0,cond_true,cond_false]
def eqH (x y:Handler):Bool:=x.Method==y.Method && (x.Kind==y.Kind && (x.Num==y.Num && (x.Cost==y.Cost && true)))
def eqI (x y:Icept):Bool:=x.Kind==y.Kind && (x.Key==y.Key && (x.Val==y.Val && (x.Num==y.Num && (x.Span==y.Span && true))))
theorem same_is (a:Server)(h1:a.Handlers.length<=1048576)(h2:a.Icepts.length<=1048576)(ht:a.Tasks=[]):Is (r52same a a):=by
 unfold r52same
 refine is_cut ?_ (fun y1 _=>is_cut (self_is (n:=a.Handlers.length) (f:=fun i=>eqH (a.Handlers.getD i.toNat d_Handler) (a.Handlers.getD i.toNat d_Handler)) (F:=fun b=>(Sum.inl b:Bool⊕Bool)) (by omega)) (fun y5 _=>self_is (n:=a.Icepts.length) (f:=fun i=>eqI (a.Icepts.getD i.toNat d_Icept) (a.Icepts.getD i.toNat d_Icept)) (F:=fun b=>b) (by omega)))
 exact is_br (fun _=>is_br (fun _=>is_br (fun _=>is_br (fun _=>is_br (fun _=>is_ob ⟨ht,ht⟩ (is_br (fun _=>is_as fun _=>is_as fun _=>is_as fun _=>is_as fun _=>is_ret) (fun _=>is_as fun _=>is_as fun _=>is_ret))) (fun _=>is_ret)) (fun _=>is_ret)) (fun _=>is_ret)) (fun _=>is_ret)) (fun _=>is_ret)
theorem same_val (a:Server)(h1:a.Handlers.length<=1048576)(h2:a.Icepts.length<=1048576)(ht:a.Traces=[]):r52sameP a a=true:=by
 have hT:r51tracesP a.Traces a.Traces=true:=by rw[ht];rfl
 unfold r52sameP r52same
 simp only[val_cut,val_br,val_ob,val_as,val_ret,val_wh,val_ix,val_lt,beq_self_eq_true,cond_true,defs_refl,hT,thenS_inl]
 have e1:=self_val (n:=a.Handlers.length) (f:=fun i=>(true && (true && (true && (true && true))))) (F:=fun b=>(Sum.inl b:Bool⊕Bool)) (r0:=default) (by omega) (fun i=>rfl) (a.Handlers.length+1) 0 (by omega) (by omega)
 have e2:=self_val (n:=a.Icepts.length) (f:=fun i=>(true && (true && (true && (true && (true && true)))))) (F:=fun b=>b) (r0:=default) (by omega) (fun i=>rfl) (a.Icepts.length+1) 0 (by omega) (by omega)
 refine Eq.trans (congrArg (fun v=>thenS v _) e1) ?_
 rw[thenS_inl]
 exact e2
theorem same_val2 (a b:Server)(h:b=a/\a.Handlers.length<=1048576/\a.Icepts.length<=1048576/\a.Tasks=[]/\a.Traces=[]):r52sameP a b=true:=by
 obtain⟨rfl,h1,h2,_,h4⟩:=h
 exact same_val _ h1 h2 h4
theorem same_is2 (a b:Server)(h:b=a/\a.Handlers.length<=1048576/\a.Icepts.length<=1048576/\a.Tasks=[]/\a.Traces=[]):Is (r52same a b):=by
 obtain⟨rfl,h1,h2,h3,_⟩:=h
 exact same_is _ h1 h2 h3
theorem r52same_is (a:Server)(b:Server)(h:b=a/\a.Handlers.length<=1048576/\a.Icepts.length<=1048576/\a.Tasks=[]/\a.Traces=[]):Is (r52same a b):=
 same_is2 a b h
noncomputable def e_r52same:Ent Z:=entN Z [e_r15same,e_r51traces,e_r52tasks] [jS 3 (shp (fun sl=>[.slot 6 false [none], .slot 5 false [none]]) (lCons (cInt .i64) (l1 cBool))),jS 7 (shp (fun sl=>[.slot 7 false [none], .slot 5 false [none]]) (lCons (cInt .i64) (l1 cBool))),jS 100002 (shp (fun sl=>[.slot 5 false [none]]) (l1 cBool)),jS 100006 (shp (fun sl=>[.slot 5 false [none]]) (l1 cBool))] (args (aCons (aAgg cd_Server) (a1 (aAgg cd_Server)))) (argsI (n:=109) rfl) (shr [.slot 0 false [none]] (l1 cBool)) [] Tryz.func7 Tryz.ntmps7 (by kernel_rfl) 1 rfl (fun a=>r52same (a.1) (a.2)) (fun a=>some ((a.2)=(a.1)/\(a.1).Handlers.length<=1048576/\(a.1).Icepts.length<=1048576/\(a.1).Tasks=[]/\(a.1).Traces=[])) (fun a e _=>by kernel_rfl) (fun a=>true) (fun a h=>⟨r52same_is (a.1) (a.2) h,same_val2 (a.1) (a.2) h⟩)
end Go.Proofs.YtiibcbmenoaigaaGreatDoor

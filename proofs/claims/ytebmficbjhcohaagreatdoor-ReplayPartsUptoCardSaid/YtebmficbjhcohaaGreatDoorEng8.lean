/- Own engine: Vdm. -/
import Derived.Test.YtebmficbjhcohaaGreatDoorEng7
import Derived.Scope
set_option linter.unusedVariables false
set_option linter.unusedSimpArgs false
namespace Go.Vc
open Go.RowKit
section
variable {R R' X:Type}
open Classical in
noncomputable def need (p:Prop)(k:Option R):Option R:=if p then k else none
open Classical in
noncomputable def both (p:Bool->Prop)(t e:Option R):Option R:=
 if h:(∃b,p b)/\∃r,(p true->t=some r)/\(p false->e=some r)then some (Classical.choose h.2)else none
open Classical in
noncomputable def asm (p:Prop)(e:R)(k:Option R):Option R:=if p then k else some e
def oN (step:X->Option (X⊕R)):Nat->X->Option R
 | 0,_=>none
 | n+1,x=>match step x with
  | none=>none
  | some (.inl a)=>oN step n a
  | some (.inr r)=>some r
open Classical in
noncomputable def qo (step:X->Option (X⊕R))(x:X):Option R:=
 if h:∃r n,oN step n x=some r then some (Classical.choose h)else none
def aiU (a:Option (X⊕R))(k:X->Option R):Option R:=
 match a with
 | none=>none
 | some (.inl x)=>k x
 | some (.inr r)=>some r
theorem vO {p:Prop}{e:R}{k:Option R}(h:p):asm p e k=k:=by unfold asm;exact mV h
theorem yD {p:Prop}{e:R}{k:Option R}(h:¬p):asm p e k=some e:=by unfold asm;exact lW h
theorem rJ {p:Prop}{k:Option R}(h:p):need p k=k:=by unfold need;exact mV h
theorem Yn {p:Prop}{k:Option R}{r:R}(h:need p k=some r):p/\k=some r:=by
 unfold need at h;split at h
 ·rename_i a;exact⟨a,h⟩
 ·cases h
@[simp] theorem aF4 {k:Option R}:need True k=k:=rJ trivial
theorem YQ {p:Bool->Prop}{t e:Option R}{r:R}(h:both p t e=some r):(∃b,p b)/\(p true->t=some r)/\(p false->e=some r):=by
 unfold both at h;split at h
 ·rename_i a;injection h with h
  subst h;exact⟨a.1,Qb4 a.2⟩
 ·cases h
theorem abO {p:Bool->Prop}{t e:Option R}{r:R}(h:∃b,p b)(d:p true->t=some r)(c:p false->e=some r):both p t e=some r:=by
 unfold both;rw[dif_pos ⟨h,r,d,c⟩];obtain⟨g,f⟩:=Qb4 (⟨r,d,c⟩:∃r,(p true->t=some r)/\(p false->e=some r));obtain⟨b,a⟩:=h;cases b with
 | true=>rw[<-g a];exact d a
 | false=>rw[<-f a];exact c a
theorem GZ {step:X->Option (X⊕R)}:∀{n m:Nat} {x:X} {r:R},oN step n x=some r->n<=m->oN step m x=some r
 | 0,_,_,_,h,_=>by simp[oN]at h
 | n+1,0,_,_,_,h=>by omega
 | n+1,m+1,x,r,h,a=>by
  unfold oN at h⊢;split at h
  ·cases h
  ·exact GZ h au
  ·exact h
theorem Kr {step:X->Option (X⊕R)}{n:Nat}{x:X}{r:R}(h:oN step n x=some r):qo step x=some r:=by
 unfold qo;have b:∃r n,oN step n x=some r:=⟨r,n,h⟩;rw[dif_pos b];obtain⟨m,c⟩:=Qb4 b;have d:=GZ h (Nat.le_max_left n m);have a:=GZ c (Nat.le_max_right n m);rw[d]at a;exact a.symm
theorem wZ {step:X->Option (X⊕R)}{x:X}{r:R}(h:qo step x=some r):∃n,oN step n x=some r:=by
 unfold qo at h;split at h
 ·rename_i a;injection h with h
  subst h;exact Qb4 a
 ·cases h
theorem wR (step:X->Option (X⊕R))(x:X):qo step x=match step x with
  | none=>none
  | some (.inl d)=>qo step d
  | some (.inr r)=>some r:=by
 cases c:step x with
 | none=>
  cases b:qo step x with
  | none=>rfl
  | some r=>
   obtain⟨n,a⟩:=wZ b;cases n with
   | zero=>simp[oN]at a
   | succ n=>simp[oN,c]at a
 | some y=>
  cases y with
  | inr r=>exact Kr (n:=1) (by simp[oN,c])
  | inl d=>
   dsimp only;cases b:qo step d with
   | some r=>
    obtain⟨n,a⟩:=wZ b;exact Kr (n:=n+1) (by simp[oN,c,a])
   | none=>
    cases e:qo step x with
    | none=>rfl
    | some r=>
     obtain⟨n,a⟩:=wZ e;cases n with
     | zero=>simp[oN]at a
     | succ n=>
      simp only[oN,c]at a;rw[Kr a]at b;cases b
theorem Ud {a:Option (X⊕R)}{k:X->Option R}{r:R}(h:aiU a k=some r):(∃x,a=some (.inl x)/\k x=some r)\/a=some (.inr r):=by
 unfold aiU at h;split at h
 ·cases h
 ·exact .inl ⟨_,rfl,h⟩
 ·injection h with h;subst h;exact .inr rfl
end
inductive Tr (D:Type):Type->Type 1 where
 | ret {R:Type} (r:R):Tr D R
 | stuck {R:Type} (n:Nat):Tr D R
 | halt {R:Type} (n:Nat) (s:St D):Tr D R
 | ob {R:Type} (p:DP) (k:Tr D R):Tr D R
 | as {R:Type} (p:Prop) (k:Tr D R):Tr D R
 | br {R:Type} (b:Bool) (t e:Tr D R):Tr D R
 | unk {R:Type} (p:Bool->Prop) (t e:Tr D R):Tr D R
 | loop {R:Type} (X:Type) (x:X) (body:X->Tr D (X⊕R)):Tr D R
 | cut {R:Type} (X:Type) (a:Tr D (X⊕R)) (k:X->Tr D R):Tr D R
section
variable {D:Type}
noncomputable def Tr.run:{R:Type}->Tr D R->R->Option R
 | _, .ret r,_=>some r
 | _, .stuck _,_=>none
 | _, .halt _ _,_=>none
 | _, .ob p k,r=>need p.p (k.run r)
 | _, .as p k,r=>asm p r (k.run r)
 | _, .br b t e,r=>cond b (t.run r) (e.run r)
 | _, .unk p t e,r=>both p (t.run r) (e.run r)
 | _, .loop X x c,r=>qo (fun y=>(c y).run (.inr r)) x
 | _, .cut X a k,r=>aiU (a.run (.inr r)) fun x=>(k x).run r
def Tr.map:{R:Type}->(c:Type)->(R->c)->Tr D R->Tr D c
 | _,_,f, .ret r=> .ret (f r)
 | _,_,_, .stuck n=> .stuck n
 | _,_,_, .halt n s=> .halt n s
 | _,c,f, .ob p k=> .ob p (k.map c f)
 | _,c,f, .as p k=> .as p (k.map c f)
 | _,c,f, .br b t e=> .br b (t.map c f) (e.map c f)
 | _,c,f, .unk p t e=> .unk p (t.map c f) (e.map c f)
 | _,c,f, .loop X x d=> .loop X x fun y=>(d y).map (X⊕c) (Sum.map id f)
 | _,c,f, .cut X a k=> .cut X (a.map (X⊕c) (Sum.map id f)) fun x=>(k x).map c f
theorem aiH {X R c:Type}{f:R->c}(d:∀a b,f a=f b->a=b):∀a b:X⊕R,Sum.map id f a=Sum.map id f b->a=b
 | .inl a, .inl b,h=>by simpa using h
 | .inr a, .inr b,h=>by simp at h;rw[d a b h]
 | .inl a, .inr b,h=>by simp at h
 | .inr a, .inl b,h=>by simp at h
theorem Tr.run_map:{R:Type}->(t:Tr D R)->(d:Type)->(f:R->d)->(∀a b,f a=f b->a=b)->(c:R)->(g:d)->(t.map d f).run (f c)=some g->∃r,g=f r/\t.run c=some r
 | _, .ret r,d,f,i,c,g,h=>by injection h with h;exact⟨r,h.symm,rfl⟩
 | _, .stuck n,d,f,i,c,g,h=>by cases h
 | _, .halt n s,d,f,i,c,g,h=>by cases h
 | _, .ob p k,d,f,i,c,g,h=>by
  obtain⟨m,u⟩:=Yn h;obtain⟨r,e,E⟩:=Tr.run_map k d f i c g u;exact⟨r,e,by simp only[Tr.run];rw[rJ m];exact E⟩
 | _, .as p k,d,f,i,c,g,h=>by
  by_cases B:p
  ·have h:(k.map d f).run (f c)=some g:=by simp only[Tr.map,Tr.run]at h;rwa [vO B]at h
   obtain⟨r,e,E⟩:=Tr.run_map k d f i c g h;exact⟨r,e,by simp only[Tr.run];rw[vO B];exact E⟩
  ·simp only[Tr.map,Tr.run]at h;rw[yD B]at h;injection h with h
   exact⟨c,h.symm,by simp only[Tr.run];rw[yD B]⟩
 | _, .br b t e,d,f,i,c,g,h=>by
  cases b with
  | true=>exact Tr.run_map t d f i c g h
  | false=>exact Tr.run_map e d f i c g h
 | _, .unk p t e,d,f,i,c,g,h=>by
  obtain⟨⟨b,w⟩,m,u⟩:=YQ h;cases b with
  | true=>
   obtain⟨r,j,l⟩:=Tr.run_map t d f i c g (m w);refine⟨r,j,abO ⟨true,w⟩ (fun _=>l) fun v=> ?_⟩;obtain⟨A,H,F⟩:=Tr.run_map e d f i c g (u v);rw[i r A (j.symm.trans H)];exact F
  | false=>
   obtain⟨r,j,l⟩:=Tr.run_map e d f i c g (u w);refine⟨r,j,abO ⟨false,w⟩ (fun v=> ?_) fun _=>l⟩;obtain⟨A,H,F⟩:=Tr.run_map t d f i c g (m v);rw[i r A (j.symm.trans H)];exact F
 | _, .loop X x o,d,f,i,c,g,h=>by
  obtain⟨n,M⟩:=wZ h;have I:=fun y=>Tr.run_map (o y) (X⊕d) (Sum.map id f) (aiH i) (.inr c)
  have J:∀(n:Nat) (x:X),oN (fun y=>((o y).map (X⊕d) (Sum.map id f)).run (.inr (f c))) n x=some g->∃r,g=f r/\oN (fun y=>(o y).run (.inr c)) n x=some r:=by
   intro n;induction n with
   | zero=>intro x h;simp[oN]at h
   | succ n L=>
    intro x h;unfold oN at h;split at h
    ·cases h
    ·rename_i N G;obtain⟨z,e,q⟩:=I x _ G;cases z with
     | inr z=>simp at e
     | inl z=>
      simp at e;subst e;obtain⟨r,j,l⟩:=L N h;exact⟨r,j,by simp only[oN];rw[q];exact l⟩
    ·rename_i A G;injection h with h
     subst h;obtain⟨z,e,q⟩:=I x _ G;cases z with
     | inl z=>simp at e
     | inr z=>
      simp at e;exact⟨z,e,by simp only[oN];rw[q]⟩
  obtain⟨r,j,l⟩:=J n x M;exact⟨r,j,Kr l⟩
 | _, .cut X a k,d,f,i,c,g,h=>by
  have C:=Tr.run_map a (X⊕d) (Sum.map id f) (aiH i) (.inr c);have K:=fun x=>Tr.run_map (k x) d f i c
  rcases Ud h with⟨x,m,u⟩ | m
  ·obtain⟨z,e,q⟩:=C _ m;cases z with
   | inr z=>simp at e
   | inl z=>
    simp at e;subst e;obtain⟨r,j,l⟩:=K x g u;exact⟨r,j,by simp only[Tr.run];rw[q];exact l⟩
  ·obtain⟨z,e,q⟩:=C _ m;cases z with
   | inl z=>simp at e
   | inr z=>
    simp at e;exact⟨z,e,by simp only[Tr.run];rw[q];rfl⟩
def RP (D R:Type):Alg (Tr D R):=⟨.stuck 1, .ob, .br⟩
theorem atx {R:Type}(a c:R):VU (RP D R) fun t=>t.run a=some c:=by
 refine⟨fun h=> ?_,fun{p k} h=>Yn h,fun{b t e} h=> ?_⟩
 ·cases h
 ·cases b with
  | true=>exact⟨fun _=>h,fun e=>by cases e⟩
  | false=>exact⟨(fun e=>by cases e),fun _=>h⟩
structure CQ (D:Type):Type 1 where
 X:Type
 its:(Nat->Sl D)->List It
 enc:X->List (List (Lf D))
 dec:List (List (Lf D))->Option X
def pid:Sl D->Nat
 | .one (.lf (.ptr l _))=>l
 | .one (.lf (.opt l _ _ _))=>l
 | .one (.lf (.own l))=>l
 | _=>1000000000
class pY (S:Sh D) (sh:CQ D):Prop where
 ok:∀cs x,sh.dec cs=some x->ag9 S cs (sh.enc x)
inductive Ex where
 | normal
 | exit (id:Nat)
 | ret
def aJO:Ex->Exit
 | .normal=> .normal
 | .exit id=> .exit id
 | .ret=> .ret
def l_:Code->Nat
 | .region id _ _=>id
 | .seq a _=>l_ a
 | .cond _ a _=>l_ a
 | .block _ b=>l_ b
 | .loop b=>l_ b
 | .scope b=>l_ b
 | _=>0
def qE:Code->Bool
 | .region _ ops c=> !c || yE ops
 | .seq a b=>qE a && qE b
 | .cond _ a b=>qE a && qE b
 | .block _ b=>qE b
 | .loop b=>qE b
 | .scope b=>qE b
 | _=>true
def writes:Code->List Nat
 | .region _ ops _=>ops.toList.filterMap (·.dst)
 | .seq a b=>writes a++writes b
 | .cond _ a b=>writes a++writes b
 | .block _ b=>writes b
 | .loop b=>writes b
 | .scope b=>writes b
 | _=>[]
def qP (s:St D):List It->List Nat
 | []=>[]
 | .slot t _ _::a=>(s.slot t).owns++qP s a
 | .cells l _::a=>(match s.blk l with
  | some (.cells b)=>b.flatMap Lf.owns
  | _=>[])++qP s a
 | .row _ _::a=>qP s a
 | .iter _::a=>qP s a
 | .aca _::a=>qP s a
 | .tcs l _ _::a=>(match s.blk l with
  | some (.tc _ b)=>b.flatMap Lf.owns
  | _=>[])++qP s a
def PR (s a:St D):List Nat:=(a.blks.take (a.blks.length - s.blks.length)).map (·.1)
def Ti:List Nat->Bool
 | []=>true
 | x::r=> !qK x r && Ti r
def yH (W:List Nat):List It->Bool
 | []=>true
 | .slot t _ _::a=>qK t W && yH W a
 | _::a=>yH W a
def XT (a:List It)(W:List Nat)(s b:St D):Option (List (List (Lf D))):=
 match Em b.slot b.blk a with
 | none=>none
 | some (cs,c)=>
  if Ti (c.map (·.1)) && (c.all fun p=>(Nat.ble s.next p.1 || qK p.1 (qP s a)) && !qK p.1 (a.flatMap It.ids)) && ((a.flatMap It.ids).all fun l=>Nat.blt l s.next) &&
   ((PR s b).all fun k=>Nat.ble s.next k || qK k (a.flatMap It.ids) || qK k (qP s a)) && yH W a then some cs else none
def wM (a:List It)(W:List Nat)(s:St D)(cs:List (List (Lf D))):St D:=
 let p:=fD a cs s.next
 ⟨p.1++((W.map fun t=>(t, .one (.lf .any)))++s.tmps),(p.2.1.map fun q=>(q.1,some q.2))++(((qP s a++a.flatMap It.ids).map fun k=>(k,none))++s.blks),p.2.2⟩
def anI (a:CQ D)(W:List Nat)(s b:St D):Option a.X:=
 match XT (a.its s.slot) W s b with
 | some cs=>a.dec cs
 | none=>none
def aqA (S:Sh D)(s:St D)(o:Oper):Option Prop:=
 match o.op with
 | .call c=>(match c.callee,c.args.toList with
  | .builtin .len,[.tmp t]=>(match s.slot t with
   | .one (.lf (.dat d))=>some (S.len d<=9223372036854775807)
   | .one (.lf (.str x))=>some (x.length<=9223372036854775807)
   | .one (.lf (.own l))=>(match s.blk l with
    | some (.row _ d)=>some (S.len d<=9223372036854775807)
    | _=>none)
   | _=>none)
  | _,_=>none)
 | _=>none
def aJ7 (d:Option Nat)(o:Oper):Bool:=
 match d,o.op with
 | some d, .binOp _ _ (.tmp x) (.const _) _=>Nat.beq x d
 | some d, .binOp _ _ (.const _) (.tmp x) _=>Nat.beq x d
 | _,_=>false
def Rn (S:Sh D)(s:St D){R:Type}(k:Tr D R):List Oper->Tr D R
 | []=>k
 | o::r=>(match r.any (aJ7 o.dst),aqA S s o with
  | false,some p=> .as p (Rn S s k r)
  | _,_=>Rn S s k r)
def H9 (T:TypeId->Option Ty)(S:Sh D)(g:FuncId->Option (Ct D))(n:Nat)(J:Nat->Option (CQ D)):Code->(R:Type)->St D->(Ex->St D->Tr D R)->Tr D R
 | .skip,R,s,K=>K .normal s
 | .region id ops h,R,s,K=>mP (RP D R) T S g ops n h ops.toList 0 [] s fun f=>Rn S f (match J (800000+id)with
  | none=>K .normal f
  | some d=>(match anI d [] f f with
   | some x=>K .normal (wM (d.its f.slot) [] f (d.enc x))
   | none=> .halt (800000+id) f)) ops.toList
 | .seq a b,R,s,K=>
  match J (100000+l_ b)with
  | none=>H9 T S g n J a R s fun e s=>
   match e with
   | .normal=>H9 T S g n J b R s K
   | .exit i=>K (.exit i) s
   | .ret=>K .ret s
  | some d=> .cut d.X (H9 T S g n J a (d.X⊕R) s fun e f=>
   match e with
   | .normal=>(match anI d (writes a) s f with
    | some x=> .ret (.inl x)
    | none=> .halt (200000+l_ b) f)
   | .exit i=>(K (.exit i) f).map (d.X⊕R) .inr
   | .ret=>(K .ret f).map (d.X⊕R) .inr) fun x=>H9 T S g n J b R (wM (d.its s.slot) (writes a) s (d.enc x)) K
 | .cond c x y,R,s,K=>
  match aB s.slot c with
  | .one (.lf (.bool b))=> .br b (H9 T S g n J x R s K) (H9 T S g n J y R s K)
  | .one (.lf (.val (.bool true)))=>H9 T S g n J x R s K
  | .one (.lf (.val (.bool false)))=>H9 T S g n J y R s K
  | .one (.lf (.unk p))=> .unk p (H9 T S g n J x R s K) (H9 T S g n J y R s K)
  | _=> .halt 2 s
 | .block id b,R,s,K=>H9 T S g n J b R s fun e s=>
  match e with
  | .normal=>K .normal s
  | .exit j=>(match Nat.beq j id with
   | true=>K .normal s
   | false=>K (.exit j) s)
  | .ret=>K .ret s
 | .loop b,R,s,K=>
  match J (l_ b)with
  | none=>(match J (600000+l_ b)with
   | none=> .halt (300000+l_ b) s
   | some d=>Nat.rec (motive:=fun _=>St D->Tr D R) (fun s=> .halt (700000+l_ b) s) (fun _ k s=>H9 T S g n J b R s fun e f=>
    match e with
    | .normal=>k f
    | .exit i=>K (.exit i) f
    | .ret=>K .ret f) (d.its fun _=> .one (.lf .any)).length s)
  | some d=>
   match anI d (writes b) s s with
   | none=> .halt (400000+l_ b) s
   | some m=> .loop d.X m fun x=>H9 T S g n J b (d.X⊕R) (wM (d.its s.slot) (writes b) s (d.enc x)) fun e f=>
    match e with
    | .normal=>(match anI d (writes b) s f with
     | some l=> .ret (.inl l)
     | none=> .halt (500000+l_ b) f)
    | .exit i=>(K (.exit i) f).map (d.X⊕R) .inr
    | .ret=>(K .ret f).map (d.X⊕R) .inr
 | .exit id,R,s,K=>K (.exit id) s
 | .ret,R,s,K=>K .ret s
 | .scope b,R,s,K=>H9 T S g n J b R s K
 | .label _,R,s,K=>K .normal s
 | _,_,s,_=> .halt 3 s
end
section
variable {D:Type}{P:Program}{S:Sh D}{T:TypeId->Option Ty}{Γ:FuncId->Option (Ct D)}{N:Nat->Prop}{w w':World}{w0:Bs}{g0:Nat->Option Value}{n:Nat}
def nR (S:Sh D)(c:Bs)(b:Nat->Option Value)(N:Nat->Prop)(n:Nat)(s:St D)(a:Act)(w:World):Prop:=Holds S c b N n s.slot s.blk (· < s.next) a w
structure Tidy (g0:Nat->Option Value)(s:St D):Prop where
 slots:∀t,∀l∈(s.slot t).refs,l < s.next
 blks:∀l bk,s.blk l=some bk->l < s.next/\∀r∈bk.refs,r < s.next
 fQ:∀l v,g0 l=some v->l < s.next
theorem X6 {g:Nat->Option Value}:∀{b:List Nat} {d:List Value},b.map g=d.map some->∀l∈b,∃u,g l=some u
 | [],_,_,l,a=>by simp at a
 | c::cs,[],h,l,a=>by simp at h
 | c::cs,v::d,h,l,a=>by
  simp only[H7,Qdn]at h;rcases CW.1 a with rfl | a
  ·exact⟨v,h.1⟩
  ·exact X6 h.2 l a
theorem Lf.gY {M:Nat->Prop}{g:Nat->Option Value}{x:Lf D}{v:Value}(h:x.Rel S M w g v):∀l∈x.refs,∃u,g l=some u:=by
 cases x<;>simp only[Lf.refs]<;>intro l c
 case ptr l' o=>simp at c;subst c;obtain⟨b,d,_⟩:=h;exact⟨_,d⟩
 case own l'=>simp at c;subst c;exact⟨_,h⟩
 case opt l' i j sz=>simp at c;subst c;obtain⟨b,n,e,d,_⟩:=h;exact⟨_,d⟩
 case fn f caps=>obtain⟨m,_,k⟩:=h;exact X6 k l c
 case part l' i j sz f=>simp at c;subst c;obtain⟨a,n,e,d,_⟩:=h;exact⟨_,d⟩
 all_goals simp at c
theorem aZ.gY {M:Nat->Prop}{g:Nat->Option Value}:∀{b:List (Lf D)} {c:List Value},aZ S M w g b c->∀l∈b.flatMap Lf.refs,∃u,g l=some u
 | [],_,_,l,a=>by simp at a
 | x::b,v::c,h,l,a=>by
  simp only[Qbm,u_]at a;rcases a with a | a
  ·exact Lf.gY h.1 l a
  ·exact aZ.gY h.2 l a
theorem Sv.gY {M:Nat->Prop}{g:Nat->Option Value}{x:Sv D}{v:Value}(h:x.Rel S M w g v):∀l∈x.refs,∃u,g l=some u:=by
 cases x with
 | lf x=>exact Lf.gY h
 | agg c=>obtain⟨b,_,a⟩:=h;exact aZ.gY a
theorem iF.gY {M:Nat->Prop}{g:Nat->Option Value}:∀{b:List (Sv D)} {c:List Value},iF S M w g b c->∀l∈b.flatMap Sv.refs,∃u,g l=some u
 | [],_,_,l,a=>by simp at a
 | x::b,v::c,h,l,a=>by
  simp only[Qbm,u_]at a;rcases a with a | a
  ·exact Sv.gY h.1 l a
  ·exact iF.gY h.2 l a
theorem Sl.gY {M:Nat->Prop}{g:Nat->Option Value}{x:Sl D}{v:Value}(h:x.Rel S M w g v):∀l∈x.refs,∃u,g l=some u:=by
 cases x with
 | one x=>exact Sv.gY h
 | sO c=>obtain⟨b,_,a⟩:=h;exact iF.gY a
theorem abb {s:St D}{a:Act}(h:nR S w0 g0 N n s a w):Tidy g0 s:=by
 obtain⟨g,c,z,E,C,A⟩:=h;refine⟨fun t l m=> ?_,fun l o x=>⟨?_,fun r f=> ?_⟩,fun l v m=>c.al l v (A l v m)⟩
 ·obtain⟨u,i⟩:=Sl.gY (z t) l m;exact c.al l u i
 ·obtain⟨v,q,_⟩:=c.dn l o x;exact c.al l v q
 ·obtain⟨v,q,k⟩:=c.dn l o x;cases o with
  | cells cs=>
   obtain⟨b,y,t,_,_,_,j⟩:=k;obtain⟨u,i⟩:=aZ.gY j r f;exact c.al r u i
  | row e d=>simp[Bk.refs]at f
  | uZ d=>simp[Bk.refs]at f
  | iter s p=>simp[Bk.refs]at f
  | map B=>simp[Bk.refs]at f
  | tc t cs=>
   obtain⟨b,y,_,_,_,j⟩:=k;obtain⟨u,i⟩:=aZ.gY j r f;exact c.al r u i
theorem L_:∀{l:List Nat},Ti l=true->l.Nodup
 | [],_=>Qd8
 | x::r,h=>by
  simp only[Ti,iT,Qbi]at h;exact List.nodup_cons.2 ⟨fun a=>by rw[gz.2 a]at h;simp at h,L_ h.2⟩
theorem J8 {x:Nat}{l:List Nat}(h:qK x l=false):x∉l:=fun a=>by rw[gz.2 a]at h;cases h
theorem pG {c:Type}(d:c)(a b:List (Nat×c))(l:Nat):look d (a++b) l=if l∈a.map (·.1)then look d a l else look d b l:=by
 induction a with
 | nil=>simp
 | cons p r f=>
  obtain⟨k,v⟩:=p;simp only[Qck,look];by_cases h:l=k
  ·subst h;simp
  ·have:¬(l.beq k=true):=fun e=>h (Qa e)
   rw[lW this,lW this,f];have:(l∈((k,v)::r).map (·.1)) ↔ l∈r.map (·.1):=by simp[h]
   simp only[this]
theorem aqc {W:List Nat}{t:Nat}(h:t∈W):look (.one (.lf .any)) (W.map fun t=>(t,(.one (.lf .any):Sl D))) t= .one (.lf .any):=by
 induction W with
 | nil=>simp at h
 | cons x r a=>
  simp only[H7,look];split
  ·rfl
  ·rename_i b;rcases CW.1 h with rfl | h
   ·simp at b
   ·exact a h
theorem anE {W:List Nat}{t:Nat}(h:t∈W):look none (W.map fun t=>(t,(none:Option (Bk D)))) t=none:=by
 induction W with
 | nil=>simp at h
 | cons x r a=>
  simp only[H7,look];split
  ·rfl
  ·rename_i b;rcases CW.1 h with rfl | h
   ·simp at b
   ·exact a h
theorem SC (b:List (Nat×Sl D))(t:Nat)(d:Sl D):∀(a:List (Nat×Sl D)),look d (a++b) t=match NM a t with
  | some y=>y
  | none=>look d b t
 | []=>rfl
 | (k,v)::r=>by
  simp only[Qck,look,NM];split
  ·rfl
  ·exact SC b t d r
theorem U8 (b:List (Nat×Option (Bk D)))(l:Nat):∀(a:List (Nat×Bk D)),look none ((a.map fun q=>(q.1,some q.2))++b) l=match jM a l with
  | some f=>some f
  | none=>look none b l
 | []=>rfl
 | (k,v)::r=>by
  simp only[H7,Qck,look,jM];by_cases h:k=l
  ·subst h;simp
  ·have d:¬(l.beq k=true):=fun e=>h (Qa e).symm
   have c:¬(k.beq l=true):=fun e=>h (Qa e)
   rw[lW d,lW c];exact U8 b l r
theorem nS {W:List Nat}:∀{b:List It} {cs:List (List (Lf D))} {a:Nat},yH W b=true->∀t y,(t,y)∈(fD b cs a).1->t∈W
 | [],cs,a,_,t,y,h=>by simp[fD]at h
 | i::b,[],a,_,t,y,h=>by cases i<;>simp[fD]at h
 | .slot d g own::b,c::cs,a,hw,t,y,h=>by
  simp only[yH,iT]at hw;simp only[fD]at h;rcases CW.1 h with h | h
  ·injection h with f _
   rw[f];exact gz.1 hw.1
  ·exact nS hw.2 t y h
 | .cells l own::b,c::cs,a,hw,t,y,h=>by
  simp only[fD]at h;exact nS qcm t y h
 | .row l e::b,c::cs,a,hw,t,y,h=>by
  simp only[fD]at h;exact nS qcm t y h
 | .iter l::b,c::cs,a,hw,t,y,h=>by
  simp only[fD]at h;exact nS qcm t y h
 | .tcs l d own::b,c::cs,a,hw,t,y,h=>by
  simp only[fD]at h;exact nS qcm t y h
 | .aca l::b,c::cs,a,hw,t,y,h=>by
  simp only[fD]at h;exact nS qcm t y h
theorem Dx {b:List It}{W:List Nat}{s c:St D}{cs:List (List (Lf D))}(h:XT b W s c=some cs):yH W b=true:=by
 unfold XT at h;split at h
 ·cases h
 ·split at h
  ·rename_i a;simp only[iT]at a;exact a.2
  ·cases h
theorem PU (hS:iL S){c:List It}{W:List Nat}{s f:St D}{cs d:List (List (Lf D))}{a:Act}(L:Tidy g0 s)(h:nR S w0 g0 N n f a w)(j:∃x,f.blks=x++s.blks)(V:∀t,t∉W->f.slot t=s.slot t)
  (m:XT c W s f=some cs) (i:ag9 S cs d):nR S w0 g0 N n (wM c W s d) a w:=by
 obtain⟨g,Q,hs,hn,U,hm⟩:=h;unfold XT at m;split at m
 ·cases m
 ·rename_i cs0 J X;split at m
  ·rename_i hc;injection m with m
   subst m;simp only[iT]at hc;obtain⟨⟨⟨⟨P,E⟩,I⟩,M⟩,c5⟩:=hc;have P:=L_ P;have E:∀p∈J,(s.next<=p.1\/p.1∈qP s c)/\p.1∉c.flatMap It.ids:=fun p Q=>by
    have:=Rf.1 E p Q;simp only[iT,Qbp,Qbi]at this;refine⟨?_,J8 this.2⟩;rcases this.1 with q | q
    ·exact .inl (U5 q)
    ·exact .inr (gz.1 q)
   have I:∀l∈c.flatMap It.ids,l < s.next:=fun l i=>by
    have:=Rf.1 I l i;simpa[CE]using this
   have M:∀k∈PR s f,s.next<=k\/k∈c.flatMap It.ids\/k∈qP s c:=fun k G=>by
    have:=Rf.1 M k G;simp only[Qbp]at this;rcases this with(q | q) | q
    ·exact .inl (U5 q)
    ·exact .inr (.inl (gz.1 q))
    ·exact .inr (.inr (gz.1 q))
   obtain⟨x,j⟩:=j;have H:PR s f=x.map (·.1):=by
    unfold PR;rw[j];simp
   have Z:∀l,l < s.next->l∉qP s c->l∉J.map (·.1):=fun l h1 h2 B=>by
    obtain⟨p,o,rfl⟩:=Qb.1 B;rcases(E p o).1 with q | q
    ·omega
    ·exact h2 q
   let C:Nat->Sl D:=fun t=>if t∈W then .one (.lf .any)else s.slot t
   let F:Nat->Option (Bk D):=fun l=>if l∈qP s c++c.flatMap It.ids then none else s.blk l
   have T:∀t,C t= .one (.lf .any)\/(f.slot t=C t/\∀l∈(C t).refs,l < s.next):=fun t=>by
    by_cases K:t∈W
    ·exact .inl (mV K)
    ·have e:C t=s.slot t:=lW K;rw[e];exact .inr ⟨V t K,L.slots t⟩
   have aa:∀l u,F l=some u->l < s.next/\f.blk l=some u/\(∀r∈u.refs,r < s.next)/\l∉J.map (·.1):=fun l u A=>by
    by_cases b:l∈qP s c++c.flatMap It.ids
    ·have:F l=none:=mV b;rw[this]at A;cases A
    ·have e:F l=s.blk l:=lW b;rw[e]at A;simp only[u_,not_or]at b;obtain⟨q1,q2⟩:=L.blks l u A;refine⟨q1,?_,q2,Z l q1 b.1⟩;have hno:l∉x.map (·.1):=fun G=>by
      rw[<-H]at G;rcases M l G with q | q | q
      ·omega
      ·exact b.2 q
      ·exact b.1 q
     show look none f.blks l=some u
     rw[j,pG,lW hno];exact A
   obtain⟨g',o,hs',R⟩:=acz (slot:=f.slot) (val:=fun t=>a.tmps.getD t undef) (nx:=s.next) hS Q hs X i (Prod.eta _).symm P
    (fun l i=>⟨I l i,fun B=>by
     obtain⟨p,o,rfl⟩:=Qb.1 B;exact(E p o).2 i⟩) T aa
   have Y:(wM c W s d).blk=r_ (fD c d s.next).2.1 F:=by
    funext l;show look none ((fD c d s.next).2.1.map (fun q=>(q.1,some q.2))++_) l=_
    rw[U8];unfold r_;split
    ·rename_i u z;rw[z]
    ·rename_i z;rw[z];dsimp only;rw[pG,Qcp];have:(fun p:Nat×Option (Bk D)=>p.1)∘(fun k:Nat=>(k,(none:Option (Bk D))))=id:=rfl;rw[this,Qea];by_cases b:l∈qP s c++c.flatMap It.ids
     ·rw[mV b,anE b];exact(mV b).symm
     ·rw[lW b];exact(lW b).symm
   have e2:(wM c W s d).slot=S9 (fD c d s.next).1 C:=by
    funext t;show look _ ((fD c d s.next).1++_) t=_
    rw[SC];unfold S9;split
    ·rename_i y O;rw[O]
    ·rename_i O;rw[O];dsimp only;rw[pG,Qcp];have:(fun p:Nat×Sl D=>p.1)∘(fun t:Nat=>(t,(.one (.lf .any):Sl D)))=id:=rfl;rw[this,Qea];by_cases b:t∈W
     ·rw[mV b,aqc b];exact(mV b).symm
     ·rw[lW b];exact(lW b).symm
   refine⟨g',?_,?_,hn,U,fun l v i=>(R l (L.fQ l v i)).trans (hm l v i)⟩
   ·rw[Y];exact o
   ·rw[Y,e2];exact hs'
  ·cases m
theorem Q5 {b:List It}{W:List Nat}{s:St D}{cs:List (List (Lf D))}:∃a,(wM b W s cs).blks=a++s.blks:=⟨_,(Qb2 _ _ _).symm⟩
theorem Mc {a:List It}{W:List Nat}{s:St D}{cs:List (List (Lf D))}(d:yH W a=true){t:Nat}(h:t∉W):(wM a W s cs).slot t=s.slot t:=by
 show look _ ((fD a cs s.next).1++_) t=look _ s.tmps t
 rw[pG,lW,pG,lW]
 ·rw[Qcp];have:(fun p:Nat×Sl D=>p.1)∘(fun t:Nat=>(t,(.one (.lf .any):Sl D)))=id:=rfl;rw[this,Qea];exact h
 ·intro e;obtain⟨⟨c,y⟩,b,rfl⟩:=Qb.1 e;exact h (nS d c y b)
theorem ahO {id:Nat}{b:Array Oper}{c:Bool}{s:St D}{r:Type 1}{A:Alg r}{den:r->Prop}(R:VU A den){K:St D->r}{a:Act}{Q:Exit->Act->World->Prop}(x:P.follows .mixedOrders=true)(m:∀t y,T t=some y->fB P t y)(l:∀f z,Γ f=some z->dJ P S f z)(v:iL S)
  (q:(!c || yE b)=true) (L:den (mP A T S Γ b n c b.toList 0 [] s K)) (h:nR S w0 g0 N n s a w)
  (M:∀g B u,nR S w0 g0 N n g B u->(∃C,g.blks=C++s.blks)->(∀t,t∉b.toList.filterMap (·.dst)->g.slot t=s.slot t)->den (K g)->Q .normal B u):(Code.region id b c).wp P Q a w:=by
 obtain⟨p,g,i,V,O,X,U,G,H,W⟩:=XW R _ _ _ _ L;simp only[Nat.mul_zero,Pj]at i;have d:b.toList.length=b.size:=by simp
 have E:∀t,t∉b.toList.filterMap (·.dst)->g.slot t=s.slot t:=fun t F=>by
  have:∀o∈b.toList,o.dst≠some t:=fun o I e=>F (Qcz.2 ⟨o,I,e⟩)
  exact W t this this
 have k:∀a w,Holds S w0 g0 N n (CJ s.slot p) (FX s.blk p) (· < s.next+64*b.size) a w->Q .normal a w:=by
  intro a w J;refine M g a w ?_ H E U;unfold nR;rw[O,X,d,FQ];exact J.alike V
 cases c with
 | false=>
  refine wp_region ?_;rw[List.range_eq_range',<-d];exact adE m l v b.toList p 0 s.next s.slot s.blk a w (fun j=>by simp) i h (by rw[d];exact k)
 | true=>
  have q:yE b=true:=by simpa using q
  exact aew x m l v q i (aih (G rfl)) h k
theorem tN {a b c:List (Nat×Option (Bk D))}(e:∃p,b=p++a)(d:∃p,c=p++b):∃p,c=p++a:=by
 obtain⟨p,rfl⟩:=e;obtain⟨q,rfl⟩:=d;exact⟨q++p,by simp⟩
theorem Fh {a:CQ D}{W:List Nat}{s b:St D}{x:a.X}(d:pY S a)(h:anI a W s b=some x):∃cs,XT (a.its s.slot) W s b=some cs/\ag9 S cs (a.enc x):=by
 unfold anI at h;split at h
 ·rename_i cs c;exact⟨cs,c,d.ok cs x h⟩
 ·cases h
theorem yC {X R:Type}:∀a b:R,(Sum.inr a:X⊕R)= .inr b->a=b:=fun a b h=>by injection h
theorem aib {s:St D}{a:Act}(h:nR S w0 g0 N n s a w){o:Oper}{p:Prop}(b:aqA S s o=some p):p:=by
 obtain⟨g,m,k,_⟩:=h;unfold aqA at b;split at b
 ·split at b
  ·rename_i t _ _;have c:=k t;split at b
   ·rename_i d q;injection b with b
    subst b;rw[q]at c;exact dD.aiy c
   ·rename_i x f;injection b with b
    subst b;rw[f]at c;exact c.2
   ·rename_i l f;split at b
    ·rename_i e d j;injection b with b
     subst b;obtain⟨v,_,i⟩:=m.dn l _ j;exact i.1.2.1
    ·cases b
   ·cases b
  ·cases b
 ·cases b
theorem MN {s:St D}{a:Act}(h:nR S w0 g0 N n s a w){R:Type}{k:Tr D R}{c d:R}:∀(e:List Oper),(Rn S s k e).run c=some d->k.run c=some d
 | [],b=>b
 | o::r,b=>by
  unfold Rn at b;split at b
  ·rename_i p _ f;simp only[Tr.run]at b;rw[vO (aib h f)]at b;exact MN h r b
  ·exact MN h r b
theorem IW {J:Nat->Option (CQ D)}(hJ:∀i L,J i=some L->pY S L)(hmx:P.follows .mixedOrders=true)(hTy:∀t ty,T t=some ty->fB P t ty)(hΓ:∀f ct,Γ f=some ct->dJ P S f ct)(hS:iL S):
  ∀(c:Code) (R:Type) (s:St D) (K:Ex->St D->Tr D R) (H G:R) (Q:Exit->Act->World->Prop) (a:Act) (w:World),qE c=true->(H9 T S Γ n J c R s K).run H=some G->nR S w0 g0 N n s a w->
   (∀e o B A,nR S w0 g0 N n o B A->(∃M,o.blks=M++s.blks)->(∀t,t∉writes c->o.slot t=s.slot t)->(K e o).run H=some G->Q (aJO e) B A)->c.wp P Q a w:=by
 intro c;induction c with
 | skip=>intro R s K H G Q a w _ u h F;exact wp_skip (F .normal s a w h ⟨[],rfl⟩ (fun _ _=>rfl) u)
 | region id ops draw=>
  intro R s K H G Q a w I u h F;refine ahO (den:=fun t:Tr D R=>t.run H=some G) (atx H G) hmx hTy hΓ hS I u h fun o B A z E C d=> ?_;have d:=MN z _ d;split at d
  ·exact F .normal o B A z E C d
  ·rename_i L hsh;split at d
   ·rename_i x V;obtain⟨cs,O,q2⟩:=Fh (hJ _ L hsh) V;exact F .normal _ B A (PU hS (abb z) z ⟨[],rfl⟩ (fun _ _=>rfl) O q2) (tN E Q5) (fun t v=>(Mc (Dx O) oI).trans (C t v)) d
   ·cases d
 | seq x y ihx ihy=>
  intro R s K H G Q a w I u h F;simp only[qE,iT]at I;simp only[H9]at u;have hw:∀{t:Nat},t∉writes (.seq x y)->t∉writes x/\t∉writes y:=fun{t} v=>by
   simp only[writes,u_,not_or]at v;exact v
  split at u
  ·refine wp_seq (ihx R s _ H G _ a w I.1 u h fun e o B A z E C d=> ?_);cases e with
   | normal=>exact ihy R o K H G Q B A I.2 d z fun e s2 a2 w2 k k1 k2 k3=>F e s2 a2 w2 k (tN E k1) (fun t v=>(k2 t (hw v).2).trans (C t (hw v).1)) k3
   | exit i=>exact F (.exit i) o B A z E (fun t v=>C t (hw v).1) d
   | ret=>exact F .ret o B A z E (fun t v=>C t (hw v).1) d
  ·rename_i L hsh;have hok:=hJ _ L hsh;have v:=abb h;rcases Ud u with⟨x0,hv1,hv2⟩ | hv1
   ·refine wp_seq (ihx _ s _ _ _ _ a w I.1 hv1 h fun e o B A z E C d=> ?_);cases e with
    | normal=>
     dsimp only at d;split at d
     ·rename_i x1 hx1;injection d with d
      injection d with d
      subst d;obtain⟨cs,O,q2⟩:=Fh hok hx1;refine ihy R _ K H G Q B A I.2 hv2 (PU hS v z E C O q2) fun e s2 a2 w2 k k1 k2 k3=>F e s2 a2 w2 k (tN Q5 k1) (fun t v=>(k2 t (hw v).2).trans (Mc (Dx O) (hw v).1)) k3
     ·cases d
    | exit i=>
     obtain⟨r,q,_⟩:=Tr.run_map _ _ _ yC _ _ d;cases q
    | ret=>
     obtain⟨r,q,_⟩:=Tr.run_map _ _ _ yC _ _ d;cases q
   ·refine wp_seq (ihx _ s _ _ _ _ a w I.1 hv1 h fun e o B A z E C d=> ?_);cases e with
    | normal=>
     dsimp only at d;split at d
     ·injection d with d;cases d
     ·cases d
    | exit i=>
     obtain⟨r,q,U⟩:=Tr.run_map _ _ _ yC _ _ d;injection q with q
     subst q;exact F (.exit i) o B A z E (fun t v=>C t (hw v).1) U
    | ret=>
     obtain⟨r,q,U⟩:=Tr.run_map _ _ _ yC _ _ d;injection q with q
     subst q;exact F .ret o B A z E (fun t v=>C t (hw v).1) U
 | cond c x y ihx ihy=>
  intro R s K H G Q a w I u h F;simp only[qE,iT]at I;simp only[H9]at u;have hh:=h;obtain⟨g,hp,hs,_⟩:=h;have hc:=oz hs c;have X:=fun u=>ihx R s K H G Q a w I.1 u hh fun e o B A z E C d=>F e o B A z E (fun t v=>C t (by simp only[writes,u_,not_or]at v;exact v.1)) d
  have Y:=fun u=>ihy R s K H G Q a w I.2 u hh fun e o B A z E C d=>F e o B A z E (fun t v=>C t (by simp only[writes,u_,not_or]at v;exact v.2)) d
  split at u
  ·rename_i b hb;rw[hb]at hc;cases b with
   | true=>exact wp_cond_true hc (X u)
   | false=>exact wp_cond_false hc (Y u)
  ·rename_i hb;rw[hb]at hc;exact wp_cond_true hc (X u)
  ·rename_i hb;rw[hb]at hc;exact wp_cond_false hc (Y u)
  ·rename_i p hb;rw[hb]at hc;obtain⟨b,hvb,hpb⟩:=hc;obtain⟨_,O,q2⟩:=YQ u;cases b with
   | true=>exact wp_cond_true hvb (X (O hpb))
   | false=>exact wp_cond_false hvb (Y (q2 hpb))
  ·cases u
 | scope b Z=>
  intro R s K H G Q a w I u h F;refine wp_scope_straight (Z R s K H G _ a w I u h fun e o B A z E C d=> ?_);cases e with
  | normal=>exact F .normal o B A z E C d
  | exit j=>exact F (.exit j) o B A z E C d
  | ret=>exact F .ret o B A z E C d
 | label l=>intro R s K H G Q a w _ u h F;exact wp_label (F .normal s a w h ⟨[],rfl⟩ (fun _ _=>rfl) u)
 | block id b Z=>
  intro R s K H G Q a w I u h F;refine wp_block (Z R s _ H G _ a w I u h fun e o B A z E C d=> ?_);cases e with
  | normal=>exact F .normal o B A z E C d
  | exit j=>
   simp only at d;show Exit.inBlock id Q (.exit j) B A
   simp only[Exit.inBlock];split at d
   ·rename_i hj;rw[mV (Qa hj)];exact F .normal o B A z E C d
   ·rename_i hj;rw[lW (by rintro rfl;simp at hj)];exact F (.exit j) o B A z E C d
  | ret=>exact F .ret o B A z E C d
 | loop b Z=>
  intro R s K H G Q a w I u h F;simp only[H9]at u;split at u
  ·split at u
   ·cases u
   rename_i shu _;generalize d:(shu.its fun _=> .one (.lf .any)).length=k at u;refine wp_loop_ghost (fun m a w=>∃o,(Nat.rec (motive:=fun _=>St D->Tr D R) (fun s=> .halt (700000+l_ b) s) (fun _ Z s=>H9 T S Γ n J b R s fun e o=>
    match e with
    | .normal=>Z o
    | .exit i=>K (.exit i) o
    | .ret=>K .ret o) m o:Tr D R).run H=some G/\nR S w0 g0 N n o a w/\(∃M,o.blks=M++s.blks)/\∀t,t∉writes b->o.slot t=s.slot t) k ⟨s,u,h,⟨[],rfl⟩,fun _ _=>rfl⟩ ?_
   rintro m a w ⟨s1,U,hh,hp1,hs1⟩;cases m with
   | zero=>cases U
   | succ m=>
    refine Z _ _ _ _ _ _ a w I U hh fun e o B A z E C d=> ?_;cases e with
    | normal=>exact⟨m,by omega,o,d,z,tN hp1 E,fun t v=>(C t v).trans (hs1 t v)⟩
    | exit i=>exact F (.exit i) o B A z (tN hp1 E) (fun t v=>(C t v).trans (hs1 t v)) d
    | ret=>exact F .ret o B A z (tN hp1 E) (fun t v=>(C t v).trans (hs1 t v)) d
  rename_i L hsh;have hok:=hJ _ L hsh;have v:=abb h;split at u
  ·cases u
  rename_i x0 hx0;obtain⟨cs0,O,q2⟩:=Fh hok hx0;have hsl:=Dx O;obtain⟨m0,hm0⟩:=wZ u;refine wp_loop_ghost (fun m a w=>∃x,oN _ m x=some G/\nR S w0 g0 N n (wM (L.its s.slot) (writes b) s (L.enc x)) a w) m0 ⟨x0,hm0,PU hS v h ⟨[],rfl⟩ (fun _ _=>rfl) O q2⟩ ?_;rintro m a w ⟨x,V,hh⟩;cases m with
  | zero=>simp[oN]at V
  | succ m=>
   have back:∀o:St D,(∃M,o.blks=M++(wM (L.its s.slot) (writes b) s (L.enc x)).blks)->∃M,o.blks=M++s.blks:=fun o E=>tN Q5 E
   have avt:∀o:St D,(∀t,t∉writes b->o.slot t=(wM (L.its s.slot) (writes b) s (L.enc x)).slot t)->∀t,t∉writes b->o.slot t=s.slot t:=fun o C t v=>(C t v).trans (Mc hsl v)
   unfold oN at V;split at V
   ·cases V
   ·rename_i x' W;refine Z _ _ _ _ _ _ a w I W hh fun e o B A z E C d=> ?_;cases e with
    | normal=>
     dsimp only at d;split at d
     ·rename_i x1 hx1;injection d with d
      injection d with d
      subst d;obtain⟨cs,k1,k2⟩:=Fh hok hx1;exact⟨m,by omega,_,V,PU hS v z (back o E) (avt o C) k1 k2⟩
     ·cases d
    | exit i=>
     obtain⟨r,q,_⟩:=Tr.run_map _ _ _ yC _ _ d;cases q
    | ret=>
     obtain⟨r,q,_⟩:=Tr.run_map _ _ _ yC _ _ d;cases q
   ·rename_i r1 W;injection V with V
    subst V;refine Z _ _ _ _ _ _ a w I W hh fun e o B A z E C d=> ?_;cases e with
    | normal=>
     dsimp only at d;split at d
     ·injection d with d;cases d
     ·cases d
    | exit i=>
     obtain⟨r,q,U⟩:=Tr.run_map _ _ _ yC _ _ d;injection q with q
     subst q;exact F (.exit i) o B A z (back o E) (avt o C) U
    | ret=>
     obtain⟨r,q,U⟩:=Tr.run_map _ _ _ yC _ _ d;injection q with q
     subst q;exact F .ret o B A z (back o E) (avt o C) U
 | exit id=>intro R s K H G Q a w _ u h F;exact wp_exit (F (.exit id) s a w h ⟨[],rfl⟩ (fun _ _=>rfl) u)
 | ret=>intro R s K H G Q a w _ u h F;exact wp_ret (F .ret s a w h ⟨[],rfl⟩ (fun _ _=>rfl) u)
 | _=>intro R s K H G Q a w _ u;cases u
end
end Go.Vc

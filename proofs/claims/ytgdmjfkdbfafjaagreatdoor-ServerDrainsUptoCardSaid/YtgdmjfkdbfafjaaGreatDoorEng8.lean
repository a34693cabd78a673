/- Own engine: Vdm. -/
import Derived.Test.YtgdmjfkdbfafjaaGreatDoorEng7
import Derived.Scope
set_option linter.unusedVariables false
set_option linter.unusedSimpArgs false
namespace Go.Vc
open Go.RowKit
section
variable {R R' X:Type}
open Classical in
noncomputable def need (p:Prop)(k:Option R):Option R:=if p then k else none
open Classical in
noncomputable def both (p:Bool->Prop)(t e:Option R):Option R:=
 if h:(∃b,p b)/\∃r,(p true->t=some r)/\(p false->e=some r)then some (Classical.choose h.2)else none
open Classical in
noncomputable def asm (p:Prop)(e:R)(k:Option R):Option R:=if p then k else some e
def qF (step:X->Option (X⊕R)):Nat->X->Option R
 | 0,_=>none
 | n+1,x=>match step x with
  | none=>none
  | some (.inl a)=>qF step n a
  | some (.inr r)=>some r
open Classical in
noncomputable def rV (step:X->Option (X⊕R))(x:X):Option R:=
 if h:∃r n,qF step n x=some r then some (Classical.choose h)else none
def ana (a:Option (X⊕R))(k:X->Option R):Option R:=
 match a with
 | none=>none
 | some (.inl x)=>k x
 | some (.inr r)=>some r
theorem zB {p:Prop}{e:R}{k:Option R}(h:p):asm p e k=k:=by unfold asm;exact yY h
theorem DJ {p:Prop}{e:R}{k:Option R}(h:¬p):asm p e k=some e:=by unfold asm;exact yc h
theorem Bc {p:Prop}{k:Option R}(h:p):need p k=k:=by unfold need;exact yY h
theorem aaw {p:Prop}{k:Option R}{r:R}(h:need p k=some r):p/\k=some r:=by
 unfold need at h
 grind
@[simp] theorem aJy {k:Option R}:need True k=k:=Bc trivial
theorem aaU {p:Bool->Prop}{t e:Option R}{r:R}(h:both p t e=some r):(∃b,p b)/\(p true->t=some r)/\(p false->e=some r):=by
 unfold both at h;split at h
 ·rename_i a;injection h with h
  subst h;exact⟨a.1,Qcd a.2⟩
 ·cases h
theorem acg {p:Bool->Prop}{t e:Option R}{r:R}(h:∃b,p b)(a:p true->t=some r)(c:p false->e=some r):both p t e=some r:=by
 unfold both;rw[dif_pos ⟨h,r,a,c⟩];obtain⟨f,g⟩:=Qcd (⟨r,a,c⟩:∃r,(p true->t=some r)/\(p false->e=some r));obtain⟨b,d⟩:=h;cases b with
 | true=>grind
 | false=>grind
theorem J4 {step:X->Option (X⊕R)}:∀{n m:Nat} {x:X} {r:R},qF step n x=some r->n<=m->qF step m x=some r
 | 0,_,_,_,h,_=>by simp[qF]at h
 | n+1,0,_,_,_,h=>by omega
 | n+1,m+1,x,r,h,a=>by
  unfold qF at h⊢;split at h
  ·cases h
  ·exact J4 h au
  ·exact h
theorem Lh {step:X->Option (X⊕R)}{n:Nat}{x:X}{r:R}(h:qF step n x=some r):rV step x=some r:=by
 unfold rV;have a:∃r n,qF step n x=some r:=⟨r,n,h⟩;rw[dif_pos a];obtain⟨m,b⟩:=Qcd a;have c:=J4 h (Nat.le_max_left n m);have d:=J4 b (Nat.le_max_right n m)
 grind
theorem x9 {step:X->Option (X⊕R)}{x:X}{r:R}(h:rV step x=some r):∃n,qF step n x=some r:=by
 unfold rV at h;split at h
 ·rename_i a;injection h with h
  subst h;exact Qcd a
 ·cases h
theorem yP (step:X->Option (X⊕R))(x:X):rV step x=match step x with
  | none=>none
  | some (.inl d)=>rV step d
  | some (.inr r)=>some r:=by
 cases c:step x with
 | none=>
  cases b:rV step x with
  | none=>rfl
  | some r=>
   obtain⟨n,a⟩:=x9 b;cases n with
   | zero=>simp[qF]at a
   | succ n=>simp[qF,c]at a
 | some y=>
  cases y with
  | inr r=>exact Lh (n:=1) (by simp[qF,c])
  | inl d=>
   dsimp only;cases b:rV step d with
   | some r=>
    obtain⟨n,a⟩:=x9 b;exact Lh (n:=n+1) (by simp[qF,c,a])
   | none=>
    cases e:rV step x with
    | none=>rfl
    | some r=>
     obtain⟨n,a⟩:=x9 e;cases n with
     | zero=>simp[qF]at a
     | succ n=>
      simp only[qF,c]at a;rw[Lh a]at b;cases b
theorem YQ {a:Option (X⊕R)}{k:X->Option R}{r:R}(h:ana a k=some r):(∃x,a=some (.inl x)/\k x=some r)\/a=some (.inr r):=by
 unfold ana at h
 grind
end
inductive Tr (D:Type):Type->Type 1 where
 | ret {R:Type} (r:R):Tr D R
 | stuck {R:Type} (n:Nat):Tr D R
 | halt {R:Type} (n:Nat) (s:St D):Tr D R
 | ob {R:Type} (p:DP) (k:Tr D R):Tr D R
 | as {R:Type} (p:Prop) (k:Tr D R):Tr D R
 | br {R:Type} (b:Bool) (t e:Tr D R):Tr D R
 | unk {R:Type} (p:Bool->Prop) (t e:Tr D R):Tr D R
 | loop {R:Type} (X:Type) (x:X) (body:X->Tr D (X⊕R)):Tr D R
 | cut {R:Type} (X:Type) (a:Tr D (X⊕R)) (k:X->Tr D R):Tr D R
section
variable {D:Type}
noncomputable def Tr.run:{R:Type}->Tr D R->R->Option R
 | _, .ret r,_=>some r
 | _, .stuck _,_=>none
 | _, .halt _ _,_=>none
 | _, .ob p k,r=>need p.p (k.run r)
 | _, .as p k,r=>asm p r (k.run r)
 | _, .br b t e,r=>cond b (t.run r) (e.run r)
 | _, .unk p t e,r=>both p (t.run r) (e.run r)
 | _, .loop X x c,r=>rV (fun y=>(c y).run (.inr r)) x
 | _, .cut X a k,r=>ana (a.run (.inr r)) fun x=>(k x).run r
def Tr.map:{R:Type}->(c:Type)->(R->c)->Tr D R->Tr D c
 | _,_,f, .ret r=> .ret (f r)
 | _,_,_, .stuck n=> .stuck n
 | _,_,_, .halt n s=> .halt n s
 | _,c,f, .ob p k=> .ob p (k.map c f)
 | _,c,f, .as p k=> .as p (k.map c f)
 | _,c,f, .br b t e=> .br b (t.map c f) (e.map c f)
 | _,c,f, .unk p t e=> .unk p (t.map c f) (e.map c f)
 | _,c,f, .loop X x d=> .loop X x fun y=>(d y).map (X⊕c) (Sum.map id f)
 | _,c,f, .cut X a k=> .cut X (a.map (X⊕c) (Sum.map id f)) fun x=>(k x).map c f
theorem anm {X R c:Type}{f:R->c}(d:∀a b,f a=f b->a=b):∀a b:X⊕R,Sum.map id f a=Sum.map id f b->a=b
 | .inl a, .inl b,h=>by simpa using h
 | .inr a, .inr b,h=>by grind
 | .inl a, .inr b,h=>by simp at h
 | .inr a, .inl b,h=>by simp at h
theorem Tr.run_map:{R:Type}->(t:Tr D R)->(d:Type)->(f:R->d)->(∀a b,f a=f b->a=b)->(c:R)->(g:d)->(t.map d f).run (f c)=some g->∃r,g=f r/\t.run c=some r
 | _, .ret r,d,f,i,c,g,h=>by injection h with h;exact⟨r,h.symm,rfl⟩
 | _, .stuck n,d,f,i,c,g,h=>by cases h
 | _, .halt n s,d,f,i,c,g,h=>by cases h
 | _, .ob p k,d,f,i,c,g,h=>by
  obtain⟨o,u⟩:=aaw h;obtain⟨r,e,J⟩:=Tr.run_map k d f i c g u;exact⟨r,e,by simp only[Tr.run];simp_all⟩
 | _, .as p k,d,f,i,c,g,h=>by
  by_cases A:p
  ·have h:(k.map d f).run (f c)=some g:=by simp only[Tr.map,Tr.run]at h;rwa [zB A]at h
   obtain⟨r,e,J⟩:=Tr.run_map k d f i c g h;exact⟨r,e,by simp only[Tr.run];rw[zB A];exact J⟩
  ·simp only[Tr.map,Tr.run]at h;rw[DJ A]at h;injection h with h
   exact⟨c,h.symm,by simp only[Tr.run];rw[DJ A]⟩
 | _, .br b t e,d,f,i,c,g,h=>by
  cases b with
  | true=>exact Tr.run_map t d f i c g h
  | false=>exact Tr.run_map e d f i c g h
 | _, .unk p t e,d,f,i,c,g,h=>by
  obtain⟨⟨b,w⟩,o,u⟩:=aaU h;cases b with
  | true=>
   obtain⟨r,j,l⟩:=Tr.run_map t d f i c g (o w);refine⟨r,j,acg ⟨true,w⟩ (fun _=>l) fun v=> ?_⟩;obtain⟨H,N,K⟩:=Tr.run_map e d f i c g (u v)
   grind
  | false=>
   obtain⟨r,j,l⟩:=Tr.run_map e d f i c g (u w);refine⟨r,j,acg ⟨false,w⟩ (fun v=> ?_) fun _=>l⟩;obtain⟨H,N,K⟩:=Tr.run_map t d f i c g (o v)
   grind
 | _, .loop X x m,d,f,i,c,g,h=>by
  obtain⟨n,M⟩:=x9 h;have I:=fun y=>Tr.run_map (m y) (X⊕d) (Sum.map id f) (anm i) (.inr c)
  have E:∀(n:Nat) (x:X),qF (fun y=>((m y).map (X⊕d) (Sum.map id f)).run (.inr (f c))) n x=some g->∃r,g=f r/\qF (fun y=>(m y).run (.inr c)) n x=some r:=by
   intro n;induction n with
   | zero=>intro x h;simp[qF]at h
   | succ n G=>
    intro x h;unfold qF at h;split at h
    ·cases h
    ·rename_i L C;obtain⟨z,e,q⟩:=I x _ C;cases z with
     | inr z=>simp at e
     | inl z=>
      simp at e;subst e;obtain⟨r,j,l⟩:=G L h;exact⟨r,j,by simp only[qF];grind⟩
    ·rename_i H C;injection h with h
     subst h;obtain⟨z,e,q⟩:=I x _ C;cases z with
     | inl z=>simp at e
     | inr z=>
      simp at e;exact⟨z,e,by simp only[qF];rw[q]⟩
  obtain⟨r,j,l⟩:=E n x M;exact⟨r,j,Lh l⟩
 | _, .cut X a k,d,f,i,c,g,h=>by
  have B:=Tr.run_map a (X⊕d) (Sum.map id f) (anm i) (.inr c);have F:=fun x=>Tr.run_map (k x) d f i c
  rcases YQ h with⟨x,o,u⟩ | o
  ·obtain⟨z,e,q⟩:=B _ o;cases z with
   | inr z=>simp at e
   | inl z=>
    simp at e;subst e;obtain⟨r,j,l⟩:=F x g u;exact⟨r,j,by simp only[Tr.run];rw[q];exact l⟩
  ·obtain⟨z,e,q⟩:=B _ o;cases z with
   | inl z=>simp at e
   | inr z=>
    simp at e;exact⟨z,e,by simp only[Tr.run];rw[q];rfl⟩
def aE5 (D R:Type):Alg (Tr D R):=⟨.stuck 1, .ob, .br⟩
theorem aw7 {R:Type}(a c:R):YV (aE5 D R) fun t=>t.run a=some c:=by
 refine⟨fun h=> ?_,fun{p k} h=>aaw h,fun{b t e} h=> ?_⟩
 ·cases h
 ·cases b with
  | true=>exact⟨fun _=>h,fun e=>by cases e⟩
  | false=>exact⟨(fun e=>by cases e),fun _=>h⟩
structure Iz (D:Type):Type 1 where
 X:Type
 its:(Nat->Sl D)->List It
 enc:X->List (List (Lf D))
 dec:List (List (Lf D))->Option X
def pid:Sl D->Nat
 | .one (.lf (.ptr l _))=>l
 | .one (.lf (.opt l _ _ _))=>l
 | .one (.lf (.own l))=>l
 | _=>1000000000
class sF (S:Sh D) (sh:Iz D):Prop where
 ok:∀cs x,sh.dec cs=some x->akw S cs (sh.enc x)
inductive Ex where
 | normal
 | exit (id:Nat)
 | ret
def aNh:Ex->Exit
 | .normal=> .normal
 | .exit id=> .exit id
 | .ret=> .ret
def uK:Code->Nat
 | .region id _ _=>id
 | .seq a _=>uK a
 | .cond _ a _=>uK a
 | .block _ b=>uK b
 | .loop b=>uK b
 | .scope b=>uK b
 | _=>0
def sV:Code->Bool
 | .region _ ops c=> !c || zV ops
 | .seq a b=>sV a && sV b
 | .cond _ a b=>sV a && sV b
 | .block _ b=>sV b
 | .loop b=>sV b
 | .scope b=>sV b
 | _=>true
def writes:Code->List Nat
 | .region _ ops _=>ops.toList.filterMap (·.dst)
 | .seq a b=>writes a++writes b
 | .cond _ a b=>writes a++writes b
 | .block _ b=>writes b
 | .loop b=>writes b
 | .scope b=>writes b
 | _=>[]
def tK (s:St D):List It->List Nat
 | []=>[]
 | .slot t _ _::a=>(s.slot t).owns++tK s a
 | .cells l _::a=>(match s.blk l with
  | some (.cells b)=>b.flatMap Lf.owns
  | _=>[])++tK s a
 | .row _ _::a=>tK s a
 | .iter _::a=>tK s a
 | .afg _::a=>tK s a
 | .tcs l _ _::a=>(match s.blk l with
  | some (.tc _ b)=>b.flatMap Lf.owns
  | _=>[])++tK s a
def Ug (s a:St D):List Nat:=(a.blks.take (a.blks.length - s.blks.length)).map (·.1)
def WM:List Nat->Bool
 | []=>true
 | x::r=> !uZ x r && WM r
def zq (W:List Nat):List It->Bool
 | []=>true
 | .slot t _ _::a=>uZ t W && zq W a
 | _::a=>zq W a
def abr (a:List It)(W:List Nat)(s b:St D):Option (List (List (Lf D))):=
 match Fp b.slot b.blk a with
 | none=>none
 | some (cs,c)=>
  if WM (c.map (·.1)) && (c.all fun p=>(Nat.ble s.next p.1 || uZ p.1 (tK s a)) && !uZ p.1 (a.flatMap It.ids)) && ((a.flatMap It.ids).all fun l=>Nat.blt l s.next) &&
   ((Ug s b).all fun k=>Nat.ble s.next k || uZ k (a.flatMap It.ids) || uZ k (tK s a)) && zq W a then some cs else none
def yz (a:List It)(W:List Nat)(s:St D)(cs:List (List (Lf D))):St D:=
 let p:=gq a cs s.next
 ⟨p.1++((W.map fun t=>(t, .one (.lf .any)))++s.tmps),(p.2.1.map fun q=>(q.1,some q.2))++(((tK s a++a.flatMap It.ids).map fun k=>(k,none))++s.blks),p.2.2⟩
def aq8 (a:Iz D)(W:List Nat)(s b:St D):Option a.X:=
 match abr (a.its s.slot) W s b with
 | some cs=>a.dec cs
 | none=>none
def atI (S:Sh D)(s:St D)(o:Oper):Option Prop:=
 match o.op with
 | .call c=>(match c.callee,c.args.toList with
  | .builtin .len,[.tmp t]=>(match s.slot t with
   | .one (.lf (.dat d))=>some (S.len d<=9223372036854775807)
   | .one (.lf (.str x))=>some (x.length<=9223372036854775807)
   | .one (.lf (.own l))=>(match s.blk l with
    | some (.row _ d)=>some (S.len d<=9223372036854775807)
    | _=>none)
   | _=>none)
  | _,_=>none)
 | _=>none
def aNp (d:Option Nat)(o:Oper):Bool:=
 match d,o.op with
 | some d, .binOp _ _ (.tmp x) (.const _) _=>Nat.beq x d
 | some d, .binOp _ _ (.const _) (.tmp x) _=>Nat.beq x d
 | _,_=>false
def ag8 (S:Sh D)(s:St D){R:Type}(k:Tr D R):List Oper->Tr D R
 | []=>k
 | o::r=>(match r.any (aNp o.dst),atI S s o with
  | false,some p=> .as p (ag8 S s k r)
  | _,_=>ag8 S s k r)
def Vp (T:TypeId->Option Ty)(S:Sh D)(g:FuncId->Option (Ct D))(n:Nat)(J:Nat->Option (Iz D)):Code->(R:Type)->St D->(Ex->St D->Tr D R)->Tr D R
 | .skip,R,s,K=>K .normal s
 | .region id ops h,R,s,K=>pV (aE5 D R) T S g ops n h ops.toList 0 [] s fun f=>ag8 S f (match J (800000+id)with
  | none=>K .normal f
  | some d=>(match aq8 d [] f f with
   | some x=>K .normal (yz (d.its f.slot) [] f (d.enc x))
   | none=> .halt (800000+id) f)) ops.toList
 | .seq a b,R,s,K=>
  match J (100000+uK b)with
  | none=>Vp T S g n J a R s fun e s=>
   match e with
   | .normal=>Vp T S g n J b R s K
   | .exit i=>K (.exit i) s
   | .ret=>K .ret s
  | some d=> .cut d.X (Vp T S g n J a (d.X⊕R) s fun e f=>
   match e with
   | .normal=>(match aq8 d (writes a) s f with
    | some x=> .ret (.inl x)
    | none=> .halt (200000+uK b) f)
   | .exit i=>(K (.exit i) f).map (d.X⊕R) .inr
   | .ret=>(K .ret f).map (d.X⊕R) .inr) fun x=>Vp T S g n J b R (yz (d.its s.slot) (writes a) s (d.enc x)) K
 | .cond c x y,R,s,K=>
  match aN s.slot c with
  | .one (.lf (.bool b))=> .br b (Vp T S g n J x R s K) (Vp T S g n J y R s K)
  | .one (.lf (.val (.bool true)))=>Vp T S g n J x R s K
  | .one (.lf (.val (.bool false)))=>Vp T S g n J y R s K
  | .one (.lf (.unk p))=> .unk p (Vp T S g n J x R s K) (Vp T S g n J y R s K)
  | _=> .halt 2 s
 | .block id b,R,s,K=>Vp T S g n J b R s fun e s=>
  match e with
  | .normal=>K .normal s
  | .exit j=>(match Nat.beq j id with
   | true=>K .normal s
   | false=>K (.exit j) s)
  | .ret=>K .ret s
 | .loop b,R,s,K=>
  match J (uK b)with
  | none=>(match J (600000+uK b)with
   | none=> .halt (300000+uK b) s
   | some d=>Nat.rec (motive:=fun _=>St D->Tr D R) (fun s=> .halt (700000+uK b) s) (fun _ m s=>Vp T S g n J b R s fun e f=>
    match e with
    | .normal=>m f
    | .exit i=>K (.exit i) f
    | .ret=>K .ret f) (d.its fun _=> .one (.lf .any)).length s)
  | some d=>
   match aq8 d (writes b) s s with
   | none=> .halt (400000+uK b) s
   | some k=> .loop d.X k fun x=>Vp T S g n J b (d.X⊕R) (yz (d.its s.slot) (writes b) s (d.enc x)) fun e f=>
    match e with
    | .normal=>(match aq8 d (writes b) s f with
     | some l=> .ret (.inl l)
     | none=> .halt (500000+uK b) f)
    | .exit i=>(K (.exit i) f).map (d.X⊕R) .inr
    | .ret=>(K .ret f).map (d.X⊕R) .inr
 | .exit id,R,s,K=>K (.exit id) s
 | .ret,R,s,K=>K .ret s
 | .scope b,R,s,K=>Vp T S g n J b R s K
 | .label _,R,s,K=>K .normal s
 | _,_,s,_=> .halt 3 s
end
section
variable {D:Type}{P:Program}{S:Sh D}{T:TypeId->Option Ty}{Γ:FuncId->Option (Ct D)}{N:Nat->Prop}{w w':World}{w0:Bs}{g0:Nat->Option Value}{n:Nat}
def pU (S:Sh D)(b:Bs)(c:Nat->Option Value)(N:Nat->Prop)(n:Nat)(s:St D)(a:Act)(w:World):Prop:=Holds S b c N n s.slot s.blk (· < s.next) a w
structure Tidy (g0:Nat->Option Value)(s:St D):Prop where
 slots:∀t,∀l∈(s.slot t).refs,l < s.next
 blks:∀l bk,s.blk l=some bk->l < s.next/\∀r∈bk.refs,r < s.next
 ji:∀l v,g0 l=some v->l < s.next
theorem abd {g:Nat->Option Value}:∀{b:List Nat} {d:List Value},b.map g=d.map some->∀l∈b,∃u,g l=some u
 | [],_,_,l,a=>by simp at a
 | c::cs,[],h,l,a=>by simp at h
 | c::cs,v::d,h,l,a=>by
  simp only[Kq,Qc5]at h;rcases EC.1 a with rfl | a
  ·grind
  ·exact abd h.2 l a
theorem Lf.jq {M:Nat->Prop}{g:Nat->Option Value}{x:Lf D}{v:Value}(h:x.Rel S M w g v):∀l∈x.refs,∃u,g l=some u:=by
 cases x<;>simp only[Lf.refs]<;>intro l c
 case ptr l' o=>simp at c;subst c;obtain⟨b,d,_⟩:=h;grind
 case own l'=>simp at c;subst c;exact⟨_,h⟩
 case opt l' i j sz=>simp at c;subst c;obtain⟨b,n,e,d,_⟩:=h;grind
 case fn f caps=>obtain⟨m,_,k⟩:=h;exact abd k l c
 case part l' i j sz f=>simp at c;subst c;obtain⟨a,n,e,d,_⟩:=h;grind
 all_goals simp at c
theorem bu.jq {M:Nat->Prop}{g:Nat->Option Value}:∀{b:List (Lf D)} {c:List Value},bu S M w g b c->∀l∈b.flatMap Lf.refs,∃u,g l=some u
 | [],_,_,l,a=>by simp at a
 | x::b,v::c,h,l,a=>by
  simp only[Qcf,yH]at a;rcases a with a | a
  ·exact Lf.jq h.1 l a
  ·exact bu.jq h.2 l a
theorem Sv.jq {M:Nat->Prop}{g:Nat->Option Value}{x:Sv D}{v:Value}(h:x.Rel S M w g v):∀l∈x.refs,∃u,g l=some u:=by
 cases x with
 | lf x=>exact Lf.jq h
 | agg b=>obtain⟨c,_,a⟩:=h;exact bu.jq a
theorem jh.jq {M:Nat->Prop}{g:Nat->Option Value}:∀{b:List (Sv D)} {c:List Value},jh S M w g b c->∀l∈b.flatMap Sv.refs,∃u,g l=some u
 | [],_,_,l,a=>by simp at a
 | x::b,v::c,h,l,a=>by
  simp only[Qcf,yH]at a;rcases a with a | a
  ·exact Sv.jq h.1 l a
  ·exact jh.jq h.2 l a
theorem Sl.jq {M:Nat->Prop}{g:Nat->Option Value}{x:Sl D}{v:Value}(h:x.Rel S M w g v):∀l∈x.refs,∃u,g l=some u:=by
 cases x with
 | one x=>exact Sv.jq h
 | x8 b=>obtain⟨c,_,a⟩:=h;exact jh.jq a
theorem adk {s:St D}{a:Act}(h:pU S w0 g0 N n s a w):Tidy g0 s:=by
 obtain⟨g,c,z,E,C,y⟩:=h;refine⟨fun t l m=> ?_,fun l o q=>⟨?_,fun r f=> ?_⟩,fun l v m=>c.al l v (y l v m)⟩
 ·obtain⟨u,i⟩:=Sl.jq (z t) l m;exact c.al l u i
 ·obtain⟨v,x,_⟩:=c.dW l o q;exact c.al l v x
 ·obtain⟨v,x,k⟩:=c.dW l o q;cases o with
  | cells cs=>
   obtain⟨b,A,t,_,_,_,j⟩:=k;obtain⟨u,i⟩:=bu.jq j r f;exact c.al r u i
  | row e d=>simp[Bk.refs]at f
  | xZ d=>simp[Bk.refs]at f
  | iter s p=>simp[Bk.refs]at f
  | map B=>simp[Bk.refs]at f
  | tc t cs=>
   obtain⟨b,A,_,_,_,j⟩:=k;obtain⟨u,i⟩:=bu.jq j r f;exact c.al r u i
theorem PN:∀{l:List Nat},WM l=true->l.Nodup
 | [],_=>Qd3
 | x::r,h=>by
  simp only[WM,kW,Qa7]at h;exact List.nodup_cons.2 ⟨fun a=>by rw[iL.2 a]at h;simp at h,PN h.2⟩
theorem M_ {x:Nat}{l:List Nat}(h:uZ x l=false):x∉l:=fun a=>by rw[iL.2 a]at h;cases h
theorem qY {c:Type}(d:c)(a b:List (Nat×c))(l:Nat):look d (a++b) l=if l∈a.map (·.1)then look d a l else look d b l:=by
 induction a with
 | nil=>simp
 | cons p r f=>
  obtain⟨k,v⟩:=p;simp only[Qbp,look];by_cases h:l=k
  ·subst h;simp
  ·have:¬(l.beq k=true):=fun e=>h (Qa e)
   grind
theorem av7 {W:List Nat}{t:Nat}(h:t∈W):look (.one (.lf .any)) (W.map fun t=>(t,(.one (.lf .any):Sl D))) t= .one (.lf .any):=by
 induction W with
 | nil=>simp at h
 | cons x r b=>
  simp only[Kq,look];split
  ·rfl
  ·rename_i a;rcases EC.1 h with rfl | h
   ·simp at a
   ·exact b h
theorem aqR {W:List Nat}{t:Nat}(h:t∈W):look none (W.map fun t=>(t,(none:Option (Bk D)))) t=none:=by
 induction W with
 | nil=>simp at h
 | cons x r b=>
  simp only[Kq,look];split
  ·rfl
  ·rename_i a;rcases EC.1 h with rfl | h
   ·simp at a
   ·exact b h
theorem Vz (b:List (Nat×Sl D))(t:Nat)(d:Sl D):∀(a:List (Nat×Sl D)),look d (a++b) t=match QJ a t with
  | some y=>y
  | none=>look d b t
 | []=>rfl
 | (k,v)::r=>by
  simp only[Qbp,look,QJ];split
  ·rfl
  ·exact Vz b t d r
theorem V7 (b:List (Nat×Option (Bk D)))(l:Nat):∀(a:List (Nat×Bk D)),look none ((a.map fun q=>(q.1,some q.2))++b) l=match lW a l with
  | some c=>some c
  | none=>look none b l
 | []=>rfl
 | (k,v)::r=>by
  simp only[Kq,Qbp,look,lW];by_cases h:k=l
  ·subst h;simp
  ·have d:¬(l.beq k=true):=fun e=>h (Qa e).symm
   have f:¬(k.beq l=true):=fun e=>h (Qa e)
   rw[yc d,yc f];exact V7 b l r
theorem pR {W:List Nat}:∀{b:List It} {cs:List (List (Lf D))} {a:Nat},zq W b=true->∀t y,(t,y)∈(gq b cs a).1->t∈W
 | [],cs,a,_,t,y,h=>by simp[gq]at h
 | i::b,[],a,_,t,y,h=>by cases i<;>simp[gq]at h
 | .slot f g own::b,c::cs,a,hw,t,y,h=>by
  simp only[zq,kW]at hw;simp only[gq]at h;rcases EC.1 h with h | h
  ·injection h with d _
   rw[d];exact iL.1 hw.1
  ·exact pR hw.2 t y h
 | .cells l own::b,c::cs,a,hw,t,y,h=>by
  simp only[gq]at h;exact pR qcl t y h
 | .row l e::b,c::cs,a,hw,t,y,h=>by
  simp only[gq]at h;exact pR qcl t y h
 | .iter l::b,c::cs,a,hw,t,y,h=>by
  simp only[gq]at h;exact pR qcl t y h
 | .tcs l f own::b,c::cs,a,hw,t,y,h=>by
  simp only[gq]at h;exact pR qcl t y h
 | .afg l::b,c::cs,a,hw,t,y,h=>by
  simp only[gq]at h;exact pR qcl t y h
theorem FP {a:List It}{W:List Nat}{s b:St D}{cs:List (List (Lf D))}(h:abr a W s b=some cs):zq W a=true:=by
 unfold abr at h
 grind
theorem TG (hS:jE S){c:List It}{W:List Nat}{s f:St D}{cs d:List (List (Lf D))}{a:Act}(y:Tidy g0 s)(h:pU S w0 g0 N n f a w)(m:∃o,f.blks=o++s.blks)(J:∀t,t∉W->f.slot t=s.slot t)
  (i:abr c W s f=some cs) (j:akw S cs d):pU S w0 g0 N n (yz c W s d) a w:=by
 obtain⟨g,B,hs,hn,V,hm⟩:=h;unfold abr at i;split at i
 ·cases i
 ·rename_i cs0 z Q;split at i
  ·rename_i Y;injection i with i
   subst i;simp only[kW]at Y;obtain⟨⟨⟨⟨C,P⟩,E⟩,K⟩,c5⟩:=Y;have C:=PN C;have P:∀p∈z,(s.next<=p.1\/p.1∈tK s c)/\p.1∉c.flatMap It.ids:=fun p B=>by
    have:=Qa2.1 P p B;simp only[kW,Qa9,Qa7]at this;refine⟨?_,M_ this.2⟩;rcases this.1 with q | q
    ·simp_all
    ·exact .inr (iL.1 q)
   have E:∀l∈c.flatMap It.ids,l < s.next:=fun l j=>by
    have:=Qa2.1 E l j;simp_all
   have K:∀k∈Ug s f,s.next<=k\/k∈c.flatMap It.ids\/k∈tK s c:=fun k G=>by
    have:=Qa2.1 K k G;simp only[Qa9]at this;rcases this with(q | q) | q
    ·simp_all
    ·exact .inr (.inl (iL.1 q))
    ·exact .inr (.inr (iL.1 q))
   obtain⟨o,m⟩:=m;have aa:Ug s f=o.map (·.1):=by
    unfold Ug;simp_all
   have U:∀l,l < s.next->l∉tK s c->l∉z.map (·.1):=fun l h1 h2 X=>by
    grind
   let x:Nat->Sl D:=fun t=>if t∈W then .one (.lf .any)else s.slot t
   let F:Nat->Option (Bk D):=fun l=>if l∈tK s c++c.flatMap It.ids then none else s.blk l
   have I:∀t,x t= .one (.lf .any)\/(f.slot t=x t/\∀l∈(x t).refs,l < s.next):=fun t=>by
    by_cases L:t∈W
    ·grind
    ·have e:x t=s.slot t:=yc L;rw[e];exact .inr ⟨J t L,y.slots t⟩
   have R:∀l u,F l=some u->l < s.next/\f.blk l=some u/\(∀r∈u.refs,r < s.next)/\l∉z.map (·.1):=fun l u A=>by
    by_cases b:l∈tK s c++c.flatMap It.ids
    ·grind
    ·have e:F l=s.blk l:=yc b;rw[e]at A;simp only[yH,not_or]at b;obtain⟨O,q2⟩:=y.blks l u A;refine⟨O,?_,q2,U l O b.1⟩;have T:l∉o.map (·.1):=fun G=>by
      grind
     show look none f.blks l=some u
     rw[m,qY,yc T];exact A
   obtain⟨g',M,hs',Z⟩:=ahc (slot:=f.slot) (val:=fun t=>a.tmps.getD t undef) (nx:=s.next) hS B hs Q j (Prod.eta _).symm C
    (fun l j=>⟨E l j,fun X=>by
     grind⟩) I R
   have e1:(yz c W s d).blk=uP (gq c d s.next).2.1 F:=by
    funext l;show look none ((gq c d s.next).2.1.map (fun q=>(q.1,some q.2))++_) l=_
    rw[V7];unfold uP;split
    ·grind
    ·rename_i H;rw[H];dsimp only;rw[qY,Qc3];have:(fun p:Nat×Option (Bk D)=>p.1)∘(fun k:Nat=>(k,(none:Option (Bk D))))=id:=rfl;rw[this,List.map_id];by_cases b:l∈tK s c++c.flatMap It.ids
     ·rw[yY b,aqR b];grind
     ·rw[yc b];exact(yc b).symm
   have e2:(yz c W s d).slot=WS (gq c d s.next).1 x:=by
    funext t;show look _ ((gq c d s.next).1++_) t=_
    rw[Vz];unfold WS;split
    ·grind
    ·rename_i hy;rw[hy];dsimp only;rw[qY,Qc3];have:(fun p:Nat×Sl D=>p.1)∘(fun t:Nat=>(t,(.one (.lf .any):Sl D)))=id:=rfl;rw[this,List.map_id];by_cases b:t∈W
     ·rw[yY b,av7 b];grind
     ·rw[yc b];exact(yc b).symm
   refine⟨g',?_,?_,hn,V,fun l v j=>(Z l (y.ji l v j)).trans (hm l v j)⟩
   ·rw[e1];exact M
   simp_all
  ·cases i
theorem Wy {b:List It}{W:List Nat}{s:St D}{cs:List (List (Lf D))}:∃a,(yz b W s cs).blks=a++s.blks:=⟨_,(Qbc _ _ _).symm⟩
theorem OO {a:List It}{W:List Nat}{s:St D}{cs:List (List (Lf D))}(c:zq W a=true){t:Nat}(h:t∉W):(yz a W s cs).slot t=s.slot t:=by
 show look _ ((gq a cs s.next).1++_) t=look _ s.tmps t
 rw[qY,yc,qY,yc]
 ·grind
 ·intro d;obtain⟨⟨e,y⟩,b,rfl⟩:=MN.1 d;exact h (pR c e y b)
theorem ak6 {id:Nat}{b:Array Oper}{c:Bool}{s:St D}{m:Type 1}{A:Alg m}{den:m->Prop}(C:YV A den){K:St D->m}{a:Act}{Q:Exit->Act->World->Prop}(z:P.follows .mixedOrders=true)(i:∀t y,T t=some y->gW P t y)(k:∀f p,Γ f=some p->gZ P S f p)(u:jE S)
  (o:(!c || zV b)=true) (F:den (pV A T S Γ b n c b.toList 0 [] s K)) (h:pU S w0 g0 N n s a w)
  (H:∀d v x,pU S w0 g0 N n d v x->(∃q,d.blks=q++s.blks)->(∀t,t∉b.toList.filterMap (·.dst)->d.slot t=s.slot t)->den (K d)->Q .normal v x):(Code.region id b c).wp P Q a w:=by
 obtain⟨l,d,g,M,O,L,G,J,E,U⟩:=aaQ C _ _ _ _ F;simp only[Nat.mul_zero,UX]at g;have e:b.toList.length=b.size:=by simp
 have B:∀t,t∉b.toList.filterMap (·.dst)->d.slot t=s.slot t:=fun t R=>by
  grind
 have r:∀a w,Holds S w0 g0 N n (En s.slot l) (IV s.blk l) (· < s.next+64*b.size) a w->Q .normal a w:=by
  intro a w I;refine H d a w ?_ E B G;unfold pU;rw[O,L,e,Dw];exact I.alike M
 cases c with
 | false=>
  refine wp_region ?_;rw[List.range_eq_range',<-e];exact ahO i k u b.toList l 0 s.next s.slot s.blk a w (fun j=>by simp) g h au
 | true=>
  have o:zV b=true:=by simpa using o
  exact afB z i k u o g (alC (J rfl)) h r
theorem vG {a b c:List (Nat×Option (Bk D))}(d:∃p,b=p++a)(e:∃p,c=p++b):∃p,c=p++a:=by
 grind
theorem Hw {a:Iz D}{W:List Nat}{s c:St D}{x:a.X}(b:sF S a)(h:aq8 a W s c=some x):∃cs,abr (a.its s.slot) W s c=some cs/\akw S cs (a.enc x):=by
 unfold aq8 at h;split at h
 ·rename_i cs d;exact⟨cs,d,b.ok cs x h⟩
 ·cases h
theorem zM {X R:Type}:∀a b:R,(Sum.inr a:X⊕R)= .inr b->a=b:=fun a b h=>by injection h
theorem ajI {s:St D}{a:Act}(h:pU S w0 g0 N n s a w){o:Oper}{p:Prop}(b:atI S s o=some p):p:=by
 obtain⟨g,k,q,_⟩:=h;unfold atI at b;split at b
 ·split at b
  ·rename_i t _ _;have c:=q t;split at b
   ·rename_i d m;injection b with b
    subst b;rw[m]at c;exact dN.alY c
   ·rename_i x i;injection b with b
    subst b;rw[i]at c;exact c.2
   ·rename_i l i;split at b
    ·rename_i e d j;injection b with b
     subst b;obtain⟨v,_,f⟩:=k.dW l _ j;exact f.1.2.1
    ·cases b
   ·cases b
  ·cases b
 ·cases b
theorem Px {s:St D}{a:Act}(h:pU S w0 g0 N n s a w){R:Type}{k:Tr D R}{c d:R}:∀(e:List Oper),(ag8 S s k e).run c=some d->k.run c=some d
 | [],b=>b
 | o::r,b=>by
  unfold ag8 at b;split at b
  ·rename_i p _ f;simp only[Tr.run]at b;rw[zB (ajI h f)]at b;exact Px h r b
  ·exact Px h r b
theorem XP {J:Nat->Option (Iz D)}(hJ:∀i L,J i=some L->sF S L)(hmx:P.follows .mixedOrders=true)(hTy:∀t ty,T t=some ty->gW P t ty)(hΓ:∀f ct,Γ f=some ct->gZ P S f ct)(hS:jE S):
  ∀(c:Code) (R:Type) (s:St D) (K:Ex->St D->Tr D R) (H G:R) (Q:Exit->Act->World->Prop) (a:Act) (w:World),sV c=true->(Vp T S Γ n J c R s K).run H=some G->pU S w0 g0 N n s a w->
   (∀e o E z,pU S w0 g0 N n o E z->(∃M,o.blks=M++s.blks)->(∀t,t∉writes c->o.slot t=s.slot t)->(K e o).run H=some G->Q (aNh e) E z)->c.wp P Q a w:=by
 intro c;induction c with
 | skip=>intro R s K H G Q a w _ u h F;exact wp_skip (F .normal s a w h ⟨[],rfl⟩ (fun _ _=>rfl) u)
 | region id ops draw=>
  intro R s K H G Q a w I u h F;refine ak6 (den:=fun t:Tr D R=>t.run H=some G) (aw7 H G) hmx hTy hΓ hS I u h fun o E z A B C d=> ?_;have d:=Px A _ d;split at d
  ·exact F .normal o E z A B C d
  ·rename_i L hsh;split at d
   ·rename_i x V;obtain⟨cs,U,q2⟩:=Hw (hJ _ L hsh) V;exact F .normal _ E z (TG hS (adk A) A ⟨[],rfl⟩ (fun _ _=>rfl) U q2) (vG B Wy) (fun t v=>(OO (FP U) qb).trans (C t v)) d
   ·cases d
 | seq x y ihx ihy=>
  intro R s K H G Q a w I u h F;simp only[sV,kW]at I;simp only[Vp]at u;have hw:∀{t:Nat},t∉writes (.seq x y)->t∉writes x/\t∉writes y:=fun{t} v=>by
   simp only[writes,yH,not_or]at v;exact v
  split at u
  ·refine wp_seq (ihx R s _ H G _ a w I.1 u h fun e o E z A B C d=> ?_);cases e with
   | normal=>exact ihy R o K H G Q E z I.2 d A fun e s2 a2 w2 k k1 k2 k3=>F e s2 a2 w2 k (vG B k1) (fun t v=>(k2 t (hw v).2).trans (C t (hw v).1)) k3
   | exit i=>exact F (.exit i) o E z A B (fun t v=>C t (hw v).1) d
   | ret=>exact F .ret o E z A B (fun t v=>C t (hw v).1) d
  ·rename_i L hsh;have hok:=hJ _ L hsh;have v:=adk h;rcases YQ u with⟨x0,hv1,hv2⟩ | hv1
   ·refine wp_seq (ihx _ s _ _ _ _ a w I.1 hv1 h fun e o E z A B C d=> ?_);cases e with
    | normal=>
     dsimp only at d;split at d
     ·rename_i x1 hx1;injection d with d
      injection d with d
      subst d;obtain⟨cs,U,q2⟩:=Hw hok hx1;refine ihy R _ K H G Q E z I.2 hv2 (TG hS v A B C U q2) fun e s2 a2 w2 k k1 k2 k3=>F e s2 a2 w2 k (vG Wy k1) (fun t v=>(k2 t (hw v).2).trans (OO (FP U) (hw v).1)) k3
     ·cases d
    | exit i=>
     obtain⟨r,q,_⟩:=Tr.run_map _ _ _ zM _ _ d;cases q
    | ret=>
     obtain⟨r,q,_⟩:=Tr.run_map _ _ _ zM _ _ d;cases q
   ·refine wp_seq (ihx _ s _ _ _ _ a w I.1 hv1 h fun e o E z A B C d=> ?_);cases e with
    | normal=>
     dsimp only at d;split at d
     ·injection d with d;cases d
     ·cases d
    | exit i=>
     obtain⟨r,q,O⟩:=Tr.run_map _ _ _ zM _ _ d;injection q with q
     subst q;exact F (.exit i) o E z A B (fun t v=>C t (hw v).1) O
    | ret=>
     obtain⟨r,q,O⟩:=Tr.run_map _ _ _ zM _ _ d;injection q with q
     subst q;exact F .ret o E z A B (fun t v=>C t (hw v).1) O
 | cond c x y ihx ihy=>
  intro R s K H G Q a w I u h F;simp only[sV,kW]at I;simp only[Vp]at u;have hh:=h;obtain⟨g,hp,hs,_⟩:=h;have W:=qh hs c;have X:=fun u=>ihx R s K H G Q a w I.1 u hh fun e o E z A B C d=>F e o E z A B (fun t v=>C t (by simp only[writes,yH,not_or]at v;exact v.1)) d
  have Y:=fun u=>ihy R s K H G Q a w I.2 u hh fun e o E z A B C d=>F e o E z A B (fun t v=>C t (by simp only[writes,yH,not_or]at v;exact v.2)) d
  split at u
  ·rename_i b hb;rw[hb]at W;cases b with
   | true=>exact wp_cond_true W (X u)
   | false=>exact wp_cond_false W (Y u)
  ·rename_i hb;rw[hb]at W;exact wp_cond_true W (X u)
  ·rename_i hb;rw[hb]at W;exact wp_cond_false W (Y u)
  ·rename_i p hb;rw[hb]at W;obtain⟨b,hvb,hpb⟩:=W;obtain⟨_,U,q2⟩:=aaU u;cases b with
   | true=>exact wp_cond_true hvb (X (U hpb))
   | false=>exact wp_cond_false hvb (Y (q2 hpb))
  ·cases u
 | scope b ih=>
  intro R s K H G Q a w I u h F;refine wp_scope_straight (ih R s K H G _ a w I u h fun e o E z A B C d=> ?_);cases e with
  | normal=>exact F .normal o E z A B C d
  | exit j=>exact F (.exit j) o E z A B C d
  | ret=>exact F .ret o E z A B C d
 | label l=>intro R s K H G Q a w _ u h F;exact wp_label (F .normal s a w h ⟨[],rfl⟩ (fun _ _=>rfl) u)
 | block id b ih=>
  intro R s K H G Q a w I u h F;refine wp_block (ih R s _ H G _ a w I u h fun e o E z A B C d=> ?_);cases e with
  | normal=>exact F .normal o E z A B C d
  | exit j=>
   simp only at d;show Exit.inBlock id Q (.exit j) E z
   simp only[Exit.inBlock];split at d
   ·rename_i hj;rw[yY (Qa hj)];exact F .normal o E z A B C d
   ·rename_i hj;rw[yc (by rintro rfl;simp at hj)];exact F (.exit j) o E z A B C d
  | ret=>exact F .ret o E z A B C d
 | loop b ih=>
  intro R s K H G Q a w I u h F;simp only[Vp]at u;split at u
  ·split at u
   ·cases u
   rename_i shu _;generalize d:(shu.its fun _=> .one (.lf .any)).length=k at u;refine wp_loop_ghost (fun m a w=>∃o,(Nat.rec (motive:=fun _=>St D->Tr D R) (fun s=> .halt (700000+uK b) s) (fun _ ih s=>Vp T S Γ n J b R s fun e o=>
    match e with
    | .normal=>ih o
    | .exit i=>K (.exit i) o
    | .ret=>K .ret o) m o:Tr D R).run H=some G/\pU S w0 g0 N n o a w/\(∃M,o.blks=M++s.blks)/\∀t,t∉writes b->o.slot t=s.slot t) k ⟨s,u,h,⟨[],rfl⟩,fun _ _=>rfl⟩ ?_
   rintro m a w ⟨s1,O,hh,hp1,hs1⟩;cases m with
   | zero=>cases O
   | succ m=>
    refine ih _ _ _ _ _ _ a w I O hh fun e o E z A B C d=> ?_;cases e with
    | normal=>exact⟨m,by omega,o,d,A,vG hp1 B,fun t v=>(C t v).trans (hs1 t v)⟩
    | exit i=>exact F (.exit i) o E z A (vG hp1 B) (fun t v=>(C t v).trans (hs1 t v)) d
    | ret=>exact F .ret o E z A (vG hp1 B) (fun t v=>(C t v).trans (hs1 t v)) d
  rename_i L hsh;have hok:=hJ _ L hsh;have v:=adk h;split at u
  ·cases u
  rename_i x0 hx0;obtain⟨cs0,U,q2⟩:=Hw hok hx0;have hsl:=FP U;obtain⟨m0,hm0⟩:=x9 u;refine wp_loop_ghost (fun m a w=>∃x,qF _ m x=some G/\pU S w0 g0 N n (yz (L.its s.slot) (writes b) s (L.enc x)) a w) m0 ⟨x0,hm0,TG hS v h ⟨[],rfl⟩ (fun _ _=>rfl) U q2⟩ ?_;rintro m a w ⟨x,V,hh⟩;cases m with
  | zero=>simp[qF]at V
  | succ m=>
   have back:∀o:St D,(∃M,o.blks=M++(yz (L.its s.slot) (writes b) s (L.enc x)).blks)->∃M,o.blks=M++s.blks:=fun o B=>vG Wy B
   have azk:∀o:St D,(∀t,t∉writes b->o.slot t=(yz (L.its s.slot) (writes b) s (L.enc x)).slot t)->∀t,t∉writes b->o.slot t=s.slot t:=fun o C t v=>(C t v).trans (OO hsl v)
   unfold qF at V;split at V
   ·cases V
   ·rename_i x' Z;refine ih _ _ _ _ _ _ a w I Z hh fun e o E z A B C d=> ?_;cases e with
    | normal=>
     dsimp only at d;split at d
     ·rename_i x1 hx1;injection d with d
      injection d with d
      subst d;obtain⟨cs,k1,k2⟩:=Hw hok hx1;exact⟨m,by omega,_,V,TG hS v A (back o B) (azk o C) k1 k2⟩
     ·cases d
    | exit i=>
     obtain⟨r,q,_⟩:=Tr.run_map _ _ _ zM _ _ d;cases q
    | ret=>
     obtain⟨r,q,_⟩:=Tr.run_map _ _ _ zM _ _ d;cases q
   ·rename_i r1 Z;injection V with V
    subst V;refine ih _ _ _ _ _ _ a w I Z hh fun e o E z A B C d=> ?_;cases e with
    | normal=>
     dsimp only at d;split at d
     ·injection d with d;cases d
     ·cases d
    | exit i=>
     obtain⟨r,q,O⟩:=Tr.run_map _ _ _ zM _ _ d;injection q with q
     subst q;exact F (.exit i) o E z A (back o B) (azk o C) O
    | ret=>
     obtain⟨r,q,O⟩:=Tr.run_map _ _ _ zM _ _ d;injection q with q
     subst q;exact F .ret o E z A (back o B) (azk o C) O
 | exit id=>intro R s K H G Q a w _ u h F;exact wp_exit (F (.exit id) s a w h ⟨[],rfl⟩ (fun _ _=>rfl) u)
 | ret=>intro R s K H G Q a w _ u h F;exact wp_ret (F .ret s a w h ⟨[],rfl⟩ (fun _ _=>rfl) u)
 | _=>intro R s K H G Q a w _ u;cases u
end
end Go.Vc

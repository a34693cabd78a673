/- Own engine: Vdm. -/
import Derived.Test.YtenjjcfebflefaaGreatDoorEng7
import Derived.Scope
set_option linter.unusedVariables false
set_option linter.unusedSimpArgs false
namespace Go.Vc
open Go.RowKit
section
variable {R R' X:Type}
open Classical in
noncomputable def need (p:Prop)(k:Option R):Option R:=if p then k else none
open Classical in
noncomputable def both (p:Bool->Prop)(t e:Option R):Option R:=
 if h:(∃b,p b)/\∃r,(p true->t=some r)/\(p false->e=some r)then some (Classical.choose h.2)else none
open Classical in
noncomputable def asm (p:Prop)(e:R)(k:Option R):Option R:=if p then k else some e
def qm (step:X->Option (X⊕R)):Nat->X->Option R
 | 0,_=>none
 | n+1,x=>match step x with
  | none=>none
  | some (.inl a)=>qm step n a
  | some (.inr r)=>some r
open Classical in
noncomputable def rW (step:X->Option (X⊕R))(x:X):Option R:=
 if h:∃r n,qm step n x=some r then some (Classical.choose h)else none
def amW (a:Option (X⊕R))(k:X->Option R):Option R:=
 match a with
 | none=>none
 | some (.inl x)=>k x
 | some (.inr r)=>some r
theorem AO {p:Prop}{e:R}{k:Option R}(h:p):asm p e k=k:=by unfold asm;exact nI h
theorem ER {p:Prop}{e:R}{k:Option R}(h:¬p):asm p e k=some e:=by unfold asm;exact kT h
theorem zi {p:Prop}{k:Option R}(h:p):need p k=k:=by unfold need;exact nI h
theorem abo {p:Prop}{k:Option R}{r:R}(h:need p k=some r):p/\k=some r:=by
 unfold need at h
 grind
@[simp] theorem aGz {k:Option R}:need True k=k:=zi trivial
theorem abO {p:Bool->Prop}{t e:Option R}{r:R}(h:both p t e=some r):(∃b,p b)/\(p true->t=some r)/\(p false->e=some r):=by
 unfold both at h;split at h
 ·rename_i a;injection h with h
  subst h;exact⟨a.1,Qcp a.2⟩
 ·cases h
theorem aeV {p:Bool->Prop}{t e:Option R}{r:R}(h:∃b,p b)(c:p true->t=some r)(a:p false->e=some r):both p t e=some r:=by
 unfold both;rw[dif_pos ⟨h,r,c,a⟩];obtain⟨d,f⟩:=Qcp (⟨r,c,a⟩:∃r,(p true->t=some r)/\(p false->e=some r));obtain⟨b,g⟩:=h;cases b with
 | true=>grind
 | false=>grind
theorem JR {step:X->Option (X⊕R)}:∀{n m:Nat} {x:X} {r:R},qm step n x=some r->n<=m->qm step m x=some r
 | 0,_,_,_,h,_=>by simp[qm]at h
 | n+1,0,_,_,_,h=>by omega
 | n+1,m+1,x,r,h,a=>by
  unfold qm at h⊢;split at h
  ·cases h
  ·exact JR h au
  ·exact h
theorem Nv {step:X->Option (X⊕R)}{n:Nat}{x:X}{r:R}(h:qm step n x=some r):rW step x=some r:=by
 unfold rW;have a:∃r n,qm step n x=some r:=⟨r,n,h⟩;rw[dif_pos a];obtain⟨m,b⟩:=Qcp a;have d:=JR h (Nat.le_max_left n m);have c:=JR b (Nat.le_max_right n m)
 grind
theorem zo {step:X->Option (X⊕R)}{x:X}{r:R}(h:rW step x=some r):∃n,qm step n x=some r:=by
 unfold rW at h;split at h
 ·rename_i a;injection h with h
  subst h;exact Qcp a
 ·cases h
theorem zh (step:X->Option (X⊕R))(x:X):rW step x=match step x with
  | none=>none
  | some (.inl d)=>rW step d
  | some (.inr r)=>some r:=by
 cases c:step x with
 | none=>
  cases b:rW step x with
  | none=>rfl
  | some r=>
   obtain⟨n,a⟩:=zo b;cases n with
   | zero=>simp[qm]at a
   | succ n=>simp[qm,c]at a
 | some y=>
  cases y with
  | inr r=>exact Nv (n:=1) (by simp[qm,c])
  | inl d=>
   dsimp only;cases b:rW step d with
   | some r=>
    obtain⟨n,a⟩:=zo b;exact Nv (n:=n+1) (by simp[qm,c,a])
   | none=>
    cases e:rW step x with
    | none=>rfl
    | some r=>
     obtain⟨n,a⟩:=zo e;cases n with
     | zero=>simp[qm]at a
     | succ n=>
      simp only[qm,c]at a;rw[Nv a]at b;cases b
theorem Wp {a:Option (X⊕R)}{k:X->Option R}{r:R}(h:amW a k=some r):(∃x,a=some (.inl x)/\k x=some r)\/a=some (.inr r):=by
 unfold amW at h
 grind
end
inductive Tr (D:Type):Type->Type 1 where
 | ret {R:Type} (r:R):Tr D R
 | stuck {R:Type} (n:Nat):Tr D R
 | halt {R:Type} (n:Nat) (s:St D):Tr D R
 | ob {R:Type} (p:DP) (k:Tr D R):Tr D R
 | as {R:Type} (p:Prop) (k:Tr D R):Tr D R
 | br {R:Type} (b:Bool) (t e:Tr D R):Tr D R
 | unk {R:Type} (p:Bool->Prop) (t e:Tr D R):Tr D R
 | loop {R:Type} (X:Type) (x:X) (body:X->Tr D (X⊕R)):Tr D R
 | cut {R:Type} (X:Type) (a:Tr D (X⊕R)) (k:X->Tr D R):Tr D R
section
variable {D:Type}
noncomputable def Tr.run:{R:Type}->Tr D R->R->Option R
 | _, .ret r,_=>some r
 | _, .stuck _,_=>none
 | _, .halt _ _,_=>none
 | _, .ob p k,r=>need p.p (k.run r)
 | _, .as p k,r=>asm p r (k.run r)
 | _, .br b t e,r=>cond b (t.run r) (e.run r)
 | _, .unk p t e,r=>both p (t.run r) (e.run r)
 | _, .loop X x c,r=>rW (fun y=>(c y).run (.inr r)) x
 | _, .cut X a k,r=>amW (a.run (.inr r)) fun x=>(k x).run r
def Tr.map:{R:Type}->(c:Type)->(R->c)->Tr D R->Tr D c
 | _,_,f, .ret r=> .ret (f r)
 | _,_,_, .stuck n=> .stuck n
 | _,_,_, .halt n s=> .halt n s
 | _,c,f, .ob p k=> .ob p (k.map c f)
 | _,c,f, .as p k=> .as p (k.map c f)
 | _,c,f, .br b t e=> .br b (t.map c f) (e.map c f)
 | _,c,f, .unk p t e=> .unk p (t.map c f) (e.map c f)
 | _,c,f, .loop X x d=> .loop X x fun y=>(d y).map (X⊕c) (Sum.map id f)
 | _,c,f, .cut X a k=> .cut X (a.map (X⊕c) (Sum.map id f)) fun x=>(k x).map c f
theorem an3 {X R c:Type}{f:R->c}(d:∀a b,f a=f b->a=b):∀a b:X⊕R,Sum.map id f a=Sum.map id f b->a=b
 | .inl a, .inl b,h=>by simpa using h
 | .inr a, .inr b,h=>by grind
 | .inl a, .inr b,h=>by simp at h
 | .inr a, .inl b,h=>by simp at h
theorem Tr.run_map:{R:Type}->(t:Tr D R)->(d:Type)->(f:R->d)->(∀a b,f a=f b->a=b)->(c:R)->(g:d)->(t.map d f).run (f c)=some g->∃r,g=f r/\t.run c=some r
 | _, .ret r,d,f,i,c,g,h=>by injection h with h;exact⟨r,h.symm,rfl⟩
 | _, .stuck n,d,f,i,c,g,h=>by cases h
 | _, .halt n s,d,f,i,c,g,h=>by cases h
 | _, .ob p k,d,f,i,c,g,h=>by
  obtain⟨m,q⟩:=abo h;obtain⟨r,e,E⟩:=Tr.run_map k d f i c g q;exact⟨r,e,by simp only[Tr.run];simp_all⟩
 | _, .as p k,d,f,i,c,g,h=>by
  by_cases A:p
  ·have h:(k.map d f).run (f c)=some g:=by simp only[Tr.map,Tr.run]at h;rwa [AO A]at h
   obtain⟨r,e,E⟩:=Tr.run_map k d f i c g h;exact⟨r,e,by simp only[Tr.run];rw[AO A];exact E⟩
  ·simp only[Tr.map,Tr.run]at h;rw[ER A]at h;injection h with h
   exact⟨c,h.symm,by simp only[Tr.run];rw[ER A]⟩
 | _, .br b t e,d,f,i,c,g,h=>by
  cases b with
  | true=>exact Tr.run_map t d f i c g h
  | false=>exact Tr.run_map e d f i c g h
 | _, .unk p t e,d,f,i,c,g,h=>by
  obtain⟨⟨b,w⟩,m,q⟩:=abO h;cases b with
  | true=>
   obtain⟨r,j,l⟩:=Tr.run_map t d f i c g (m w);refine⟨r,j,aeV ⟨true,w⟩ (fun _=>l) fun v=> ?_⟩;obtain⟨H,K,L⟩:=Tr.run_map e d f i c g (q v)
   grind
  | false=>
   obtain⟨r,j,l⟩:=Tr.run_map e d f i c g (q w);refine⟨r,j,aeV ⟨false,w⟩ (fun v=> ?_) fun _=>l⟩;obtain⟨H,K,L⟩:=Tr.run_map t d f i c g (m v)
   grind
 | _, .loop X x o,d,f,i,c,g,h=>by
  obtain⟨n,N⟩:=zo h;have I:=fun y=>Tr.run_map (o y) (X⊕d) (Sum.map id f) (an3 i) (.inr c)
  have J:∀(n:Nat) (x:X),qm (fun y=>((o y).map (X⊕d) (Sum.map id f)).run (.inr (f c))) n x=some g->∃r,g=f r/\qm (fun y=>(o y).run (.inr c)) n x=some r:=by
   intro n;induction n with
   | zero=>intro x h;simp[qm]at h
   | succ n G=>
    intro x h;unfold qm at h;split at h
    ·cases h
    ·rename_i M C;obtain⟨z,e,u⟩:=I x _ C;cases z with
     | inr z=>simp at e
     | inl z=>
      simp at e;subst e;obtain⟨r,j,l⟩:=G M h;exact⟨r,j,by simp only[qm];grind⟩
    ·rename_i H C;injection h with h
     subst h;obtain⟨z,e,u⟩:=I x _ C;cases z with
     | inl z=>simp at e
     | inr z=>
      simp at e;exact⟨z,e,by simp only[qm];rw[u]⟩
  obtain⟨r,j,l⟩:=J n x N;exact⟨r,j,Nv l⟩
 | _, .cut X a k,d,f,i,c,g,h=>by
  have B:=Tr.run_map a (X⊕d) (Sum.map id f) (an3 i) (.inr c);have F:=fun x=>Tr.run_map (k x) d f i c
  rcases Wp h with⟨x,m,q⟩ | m
  ·obtain⟨z,e,u⟩:=B _ m;cases z with
   | inr z=>simp at e
   | inl z=>
    simp at e;subst e;obtain⟨r,j,l⟩:=F x g q;exact⟨r,j,by simp only[Tr.run];rw[u];exact l⟩
  ·obtain⟨z,e,u⟩:=B _ m;cases z with
   | inl z=>simp at e
   | inr z=>
    simp at e;exact⟨z,e,by simp only[Tr.run];rw[u];rfl⟩
def We (D R:Type):Alg (Tr D R):=⟨.stuck 1, .ob, .br⟩
theorem awf {R:Type}(c a:R):Zv (We D R) fun t=>t.run c=some a:=by
 refine⟨fun h=> ?_,fun{p k} h=>abo h,fun{b t e} h=> ?_⟩
 ·cases h
 ·cases b with
  | true=>exact⟨fun _=>h,fun e=>by cases e⟩
  | false=>exact⟨(fun e=>by cases e),fun _=>h⟩
structure FT (D:Type):Type 1 where
 X:Type
 its:(Nat->Sl D)->List It
 enc:X->List (List (Lf D))
 dec:List (List (Lf D))->Option X
def pid:Sl D->Nat
 | .one (.lf (.ptr l _))=>l
 | .one (.lf (.opt l _ _ _))=>l
 | .one (.lf (.own l))=>l
 | _=>1000000000
class rD (S:Sh D) (sh:FT D):Prop where
 ok:∀cs x,sh.dec cs=some x->aln S cs (sh.enc x)
inductive Ex where
 | normal
 | exit (id:Nat)
 | ret
def aJb:Ex->Exit
 | .normal=> .normal
 | .exit id=> .exit id
 | .ret=> .ret
def nG:Code->Nat
 | .region id _ _=>id
 | .seq a _=>nG a
 | .cond _ a _=>nG a
 | .block _ b=>nG b
 | .loop b=>nG b
 | .scope b=>nG b
 | _=>0
def sG:Code->Bool
 | .region _ ops c=> !c || zZ ops
 | .seq a b=>sG a && sG b
 | .cond _ a b=>sG a && sG b
 | .block _ b=>sG b
 | .loop b=>sG b
 | .scope b=>sG b
 | _=>true
def writes:Code->List Nat
 | .region _ ops _=>ops.toList.filterMap (·.dst)
 | .seq a b=>writes a++writes b
 | .cond _ a b=>writes a++writes b
 | .block _ b=>writes b
 | .loop b=>writes b
 | .scope b=>writes b
 | _=>[]
def tY (s:St D):List It->List Nat
 | []=>[]
 | .slot t _ _::a=>(s.slot t).owns++tY s a
 | .cells l _::a=>(match s.blk l with
  | some (.cells b)=>b.flatMap Lf.owns
  | _=>[])++tY s a
 | .row _ _::a=>tY s a
 | .iter _::a=>tY s a
 | .afL _::a=>tY s a
 | .tcs l _ _::a=>(match s.blk l with
  | some (.tc _ b)=>b.flatMap Lf.owns
  | _=>[])++tY s a
def Vq (s a:St D):List Nat:=(a.blks.take (a.blks.length - s.blks.length)).map (·.1)
def V8:List Nat->Bool
 | []=>true
 | x::r=> !uP x r && V8 r
def Af (W:List Nat):List It->Bool
 | []=>true
 | .slot t _ _::a=>uP t W && Af W a
 | _::a=>Af W a
def aaX (a:List It)(W:List Nat)(s b:St D):Option (List (List (Lf D))):=
 match Hm b.slot b.blk a with
 | none=>none
 | some (cs,c)=>
  if V8 (c.map (·.1)) && (c.all fun p=>(Nat.ble s.next p.1 || uP p.1 (tY s a)) && !uP p.1 (a.flatMap It.ids)) && ((a.flatMap It.ids).all fun l=>Nat.blt l s.next) &&
   ((Vq s b).all fun k=>Nat.ble s.next k || uP k (a.flatMap It.ids) || uP k (tY s a)) && Af W a then some cs else none
def zf (a:List It)(W:List Nat)(s:St D)(cs:List (List (Lf D))):St D:=
 let p:=eU a cs s.next
 ⟨p.1++((W.map fun t=>(t, .one (.lf .any)))++s.tmps),(p.2.1.map fun q=>(q.1,some q.2))++(((tY s a++a.flatMap It.ids).map fun k=>(k,none))++s.blks),p.2.2⟩
def apI (a:FT D)(W:List Nat)(s b:St D):Option a.X:=
 match aaX (a.its s.slot) W s b with
 | some cs=>a.dec cs
 | none=>none
def avw (S:Sh D)(s:St D)(o:Oper):Option Prop:=
 match o.op with
 | .call c=>(match c.callee,c.args.toList with
  | .builtin .len,[.tmp t]=>(match s.slot t with
   | .one (.lf (.dat d))=>some (S.len d<=9223372036854775807)
   | .one (.lf (.str x))=>some (x.length<=9223372036854775807)
   | .one (.lf (.own l))=>(match s.blk l with
    | some (.row _ d)=>some (S.len d<=9223372036854775807)
    | _=>none)
   | _=>none)
  | _,_=>none)
 | _=>none
def aJd (d:Option Nat)(o:Oper):Bool:=
 match d,o.op with
 | some d, .binOp _ _ (.tmp x) (.const _) _=>Nat.beq x d
 | some d, .binOp _ _ (.const _) (.tmp x) _=>Nat.beq x d
 | _,_=>false
def V9 (S:Sh D)(s:St D){R:Type}(k:Tr D R):List Oper->Tr D R
 | []=>k
 | o::r=>(match r.any (aJd o.dst),avw S s o with
  | false,some p=> .as p (V9 S s k r)
  | _,_=>V9 S s k r)
def MQ (T:TypeId->Option Ty)(S:Sh D)(g:FuncId->Option (Ct D))(n:Nat)(J:Nat->Option (FT D)):Code->(R:Type)->St D->(Ex->St D->Tr D R)->Tr D R
 | .skip,R,s,K=>K .normal s
 | .region id ops h,R,s,K=>nT (We D R) T S g ops n h ops.toList 0 [] s fun f=>V9 S f (match J (800000+id)with
  | none=>K .normal f
  | some d=>(match apI d [] f f with
   | some x=>K .normal (zf (d.its f.slot) [] f (d.enc x))
   | none=> .halt (800000+id) f)) ops.toList
 | .seq a b,R,s,K=>
  match J (100000+nG b)with
  | none=>MQ T S g n J a R s fun e s=>
   match e with
   | .normal=>MQ T S g n J b R s K
   | .exit i=>K (.exit i) s
   | .ret=>K .ret s
  | some d=> .cut d.X (MQ T S g n J a (d.X⊕R) s fun e f=>
   match e with
   | .normal=>(match apI d (writes a) s f with
    | some x=> .ret (.inl x)
    | none=> .halt (200000+nG b) f)
   | .exit i=>(K (.exit i) f).map (d.X⊕R) .inr
   | .ret=>(K .ret f).map (d.X⊕R) .inr) fun x=>MQ T S g n J b R (zf (d.its s.slot) (writes a) s (d.enc x)) K
 | .cond c x y,R,s,K=>
  match aG s.slot c with
  | .one (.lf (.bool b))=> .br b (MQ T S g n J x R s K) (MQ T S g n J y R s K)
  | .one (.lf (.val (.bool true)))=>MQ T S g n J x R s K
  | .one (.lf (.val (.bool false)))=>MQ T S g n J y R s K
  | .one (.lf (.unk p))=> .unk p (MQ T S g n J x R s K) (MQ T S g n J y R s K)
  | _=> .halt 2 s
 | .block id b,R,s,K=>MQ T S g n J b R s fun e s=>
  match e with
  | .normal=>K .normal s
  | .exit j=>(match Nat.beq j id with
   | true=>K .normal s
   | false=>K (.exit j) s)
  | .ret=>K .ret s
 | .loop b,R,s,K=>
  match J (nG b)with
  | none=>(match J (600000+nG b)with
   | none=> .halt (300000+nG b) s
   | some d=>Nat.rec (motive:=fun _=>St D->Tr D R) (fun s=> .halt (700000+nG b) s) (fun _ m s=>MQ T S g n J b R s fun e f=>
    match e with
    | .normal=>m f
    | .exit i=>K (.exit i) f
    | .ret=>K .ret f) (d.its fun _=> .one (.lf .any)).length s)
  | some d=>
   match apI d (writes b) s s with
   | none=> .halt (400000+nG b) s
   | some l=> .loop d.X l fun x=>MQ T S g n J b (d.X⊕R) (zf (d.its s.slot) (writes b) s (d.enc x)) fun e f=>
    match e with
    | .normal=>(match apI d (writes b) s f with
     | some k=> .ret (.inl k)
     | none=> .halt (500000+nG b) f)
    | .exit i=>(K (.exit i) f).map (d.X⊕R) .inr
    | .ret=>(K .ret f).map (d.X⊕R) .inr
 | .exit id,R,s,K=>K (.exit id) s
 | .ret,R,s,K=>K .ret s
 | .scope b,R,s,K=>MQ T S g n J b R s K
 | .label _,R,s,K=>K .normal s
 | _,_,s,_=> .halt 3 s
end
section
variable {D:Type}{P:Program}{S:Sh D}{T:TypeId->Option Ty}{Γ:FuncId->Option (Ct D)}{N:Nat->Prop}{w w':World}{w0:Bs}{g0:Nat->Option Value}{n:Nat}
def pq (S:Sh D)(c:Bs)(b:Nat->Option Value)(N:Nat->Prop)(n:Nat)(s:St D)(a:Act)(w:World):Prop:=Holds S c b N n s.slot s.blk (· < s.next) a w
structure Tidy (g0:Nat->Option Value)(s:St D):Prop where
 slots:∀t,∀l∈(s.slot t).refs,l < s.next
 blks:∀l bk,s.blk l=some bk->l < s.next/\∀r∈bk.refs,r < s.next
 fU:∀l v,g0 l=some v->l < s.next
theorem abx {g:Nat->Option Value}:∀{b:List Nat} {d:List Value},b.map g=d.map some->∀l∈b,∃u,g l=some u
 | [],_,_,l,a=>by simp at a
 | c::cs,[],h,l,a=>by simp at h
 | c::cs,v::d,h,l,a=>by
  simp only[Lj,Qdv]at h;rcases zN.1 a with rfl | a
  ·grind
  ·exact abx h.2 l a
theorem Lf.iO {M:Nat->Prop}{g:Nat->Option Value}{x:Lf D}{v:Value}(h:x.Rel S M w g v):∀l∈x.refs,∃u,g l=some u:=by
 cases x<;>simp only[Lf.refs]<;>intro l c
 case ptr l' o=>simp at c;subst c;obtain⟨b,e,_⟩:=h;grind
 case own l'=>simp at c;subst c;exact⟨_,h⟩
 case opt l' i j sz=>simp at c;subst c;obtain⟨b,n,d,e,_⟩:=h;grind
 case fn f caps=>obtain⟨m,_,k⟩:=h;exact abx k l c
 case part l' i j sz f=>simp at c;subst c;obtain⟨a,n,d,e,_⟩:=h;grind
 all_goals simp at c
theorem bf.iO {M:Nat->Prop}{g:Nat->Option Value}:∀{b:List (Lf D)} {c:List Value},bf S M w g b c->∀l∈b.flatMap Lf.refs,∃u,g l=some u
 | [],_,_,l,a=>by simp at a
 | x::b,v::c,h,l,a=>by
  simp only[Qcc,vN]at a;rcases a with a | a
  ·exact Lf.iO h.1 l a
  ·exact bf.iO h.2 l a
theorem Sv.iO {M:Nat->Prop}{g:Nat->Option Value}{x:Sv D}{v:Value}(h:x.Rel S M w g v):∀l∈x.refs,∃u,g l=some u:=by
 cases x with
 | lf x=>exact Lf.iO h
 | agg c=>obtain⟨b,_,a⟩:=h;exact bf.iO a
theorem iE.iO {M:Nat->Prop}{g:Nat->Option Value}:∀{b:List (Sv D)} {c:List Value},iE S M w g b c->∀l∈b.flatMap Sv.refs,∃u,g l=some u
 | [],_,_,l,a=>by simp at a
 | x::b,v::c,h,l,a=>by
  simp only[Qcc,vN]at a;rcases a with a | a
  ·exact Sv.iO h.1 l a
  ·exact iE.iO h.2 l a
theorem Sl.iO {M:Nat->Prop}{g:Nat->Option Value}{x:Sl D}{v:Value}(h:x.Rel S M w g v):∀l∈x.refs,∃u,g l=some u:=by
 cases x with
 | one x=>exact Sv.iO h
 | wU c=>obtain⟨b,_,a⟩:=h;exact iE.iO a
theorem adB {s:St D}{a:Act}(h:pq S w0 g0 N n s a w):Tidy g0 s:=by
 obtain⟨g,c,y,E,B,A⟩:=h;refine⟨fun t l o=> ?_,fun l m x=>⟨?_,fun r f=> ?_⟩,fun l v o=>c.al l v (A l v o)⟩
 ·obtain⟨u,i⟩:=Sl.iO (y t) l o;exact c.al l u i
 ·obtain⟨v,q,_⟩:=c.dD l m x;exact c.al l v q
 ·obtain⟨v,q,k⟩:=c.dD l m x;cases m with
  | cells cs=>
   obtain⟨b,z,t,_,_,_,j⟩:=k;obtain⟨u,i⟩:=bf.iO j r f;exact c.al r u i
  | row e d=>simp[Bk.refs]at f
  | xZ d=>simp[Bk.refs]at f
  | iter s p=>simp[Bk.refs]at f
  | map C=>simp[Bk.refs]at f
  | tc t cs=>
   obtain⟨b,z,_,_,_,j⟩:=k;obtain⟨u,i⟩:=bf.iO j r f;exact c.al r u i
theorem QQ:∀{l:List Nat},V8 l=true->l.Nodup
 | [],_=>Qdk
 | x::r,h=>by
  simp only[V8,jA,Qbg]at h;exact List.nodup_cons.2 ⟨fun a=>by rw[gJ.2 a]at h;simp at h,QQ h.2⟩
theorem O0 {x:Nat}{l:List Nat}(h:uP x l=false):x∉l:=fun a=>by rw[gJ.2 a]at h;cases h
theorem qB {c:Type}(d:c)(a b:List (Nat×c))(l:Nat):look d (a++b) l=if l∈a.map (·.1)then look d a l else look d b l:=by
 induction a with
 | nil=>simp
 | cons p r f=>
  obtain⟨k,v⟩:=p;simp only[Qb1,look];by_cases h:l=k
  ·subst h;simp
  ·have:¬(l.beq k=true):=fun e=>h (Qa e)
   grind
theorem ayk {W:List Nat}{t:Nat}(h:t∈W):look (.one (.lf .any)) (W.map fun t=>(t,(.one (.lf .any):Sl D))) t= .one (.lf .any):=by
 induction W with
 | nil=>simp at h
 | cons x r b=>
  simp only[Lj,look];split
  ·rfl
  ·rename_i a;rcases zN.1 h with rfl | h
   ·simp at a
   ·exact b h
theorem apw {W:List Nat}{t:Nat}(h:t∈W):look none (W.map fun t=>(t,(none:Option (Bk D)))) t=none:=by
 induction W with
 | nil=>simp at h
 | cons x r b=>
  simp only[Lj,look];split
  ·rfl
  ·rename_i a;rcases zN.1 h with rfl | h
   ·simp at a
   ·exact b h
theorem Yy (b:List (Nat×Sl D))(t:Nat)(d:Sl D):∀(a:List (Nat×Sl D)),look d (a++b) t=match Ri a t with
  | some y=>y
  | none=>look d b t
 | []=>rfl
 | (k,v)::r=>by
  simp only[Qb1,look,Ri];split
  ·rfl
  ·exact Yy b t d r
theorem Za (b:List (Nat×Option (Bk D)))(l:Nat):∀(a:List (Nat×Bk D)),look none ((a.map fun q=>(q.1,some q.2))++b) l=match kX a l with
  | some d=>some d
  | none=>look none b l
 | []=>rfl
 | (k,v)::r=>by
  simp only[Lj,Qb1,look,kX];by_cases h:k=l
  ·subst h;simp
  ·have f:¬(l.beq k=true):=fun e=>h (Qa e).symm
   have c:¬(k.beq l=true):=fun e=>h (Qa e)
   rw[kT f,kT c];exact Za b l r
theorem oW {W:List Nat}:∀{a:List It} {cs:List (List (Lf D))} {b:Nat},Af W a=true->∀t y,(t,y)∈(eU a cs b).1->t∈W
 | [],cs,b,_,t,y,h=>by simp[eU]at h
 | i::a,[],b,_,t,y,h=>by cases i<;>simp[eU]at h
 | .slot d g own::a,c::cs,b,hw,t,y,h=>by
  simp only[Af,jA]at hw;simp only[eU]at h;rcases zN.1 h with h | h
  ·injection h with f _
   rw[f];exact gJ.1 hw.1
  ·exact oW hw.2 t y h
 | .cells l own::a,c::cs,b,hw,t,y,h=>by
  simp only[eU]at h;exact oW qca t y h
 | .row l e::a,c::cs,b,hw,t,y,h=>by
  simp only[eU]at h;exact oW qca t y h
 | .iter l::a,c::cs,b,hw,t,y,h=>by
  simp only[eU]at h;exact oW qca t y h
 | .tcs l d own::a,c::cs,b,hw,t,y,h=>by
  simp only[eU]at h;exact oW qca t y h
 | .afL l::a,c::cs,b,hw,t,y,h=>by
  simp only[eU]at h;exact oW qca t y h
theorem Gh {a:List It}{W:List Nat}{s b:St D}{cs:List (List (Lf D))}(h:aaX a W s b=some cs):Af W a=true:=by
 unfold aaX at h
 grind
theorem TS (hS:iZ S){c:List It}{W:List Nat}{s f:St D}{cs d:List (List (Lf D))}{a:Act}(z:Tidy g0 s)(h:pq S w0 g0 N n f a w)(m:∃o,f.blks=o++s.blks)(O:∀t,t∉W->f.slot t=s.slot t)
  (j:aaX c W s f=some cs) (i:aln S cs d):pq S w0 g0 N n (zf c W s d) a w:=by
 obtain⟨g,B,hs,hn,G,hm⟩:=h;unfold aaX at j;split at j
 ·cases j
 ·rename_i cs0 A K;split at j
  ·rename_i V;injection j with j
   subst j;simp only[jA]at V;obtain⟨⟨⟨⟨F,I⟩,E⟩,M⟩,c5⟩:=V;have F:=QQ F;have I:∀p∈A,(s.next<=p.1\/p.1∈tY s c)/\p.1∉c.flatMap It.ids:=fun p B=>by
    have:=Qbd.1 I p B;simp only[jA,Qbi,Qbg]at this;refine⟨?_,O0 this.2⟩;rcases this.1 with q | q
    ·simp_all
    ·exact .inr (gJ.1 q)
   have E:∀l∈c.flatMap It.ids,l < s.next:=fun l i=>by
    have:=Qbd.1 E l i;simp_all
   have M:∀k∈Vq s f,s.next<=k\/k∈c.flatMap It.ids\/k∈tY s c:=fun k X=>by
    have:=Qbd.1 M k X;simp only[Qbi]at this;rcases this with(q | q) | q
    ·simp_all
    ·exact .inr (.inl (gJ.1 q))
    ·exact .inr (.inr (gJ.1 q))
   obtain⟨o,m⟩:=m;have aa:Vq s f=o.map (·.1):=by
    unfold Vq;simp_all
   have Z:∀l,l < s.next->l∉tY s c->l∉A.map (·.1):=fun l h1 h2 Y=>by
    grind
   let x:Nat->Sl D:=fun t=>if t∈W then .one (.lf .any)else s.slot t
   let C:Nat->Option (Bk D):=fun l=>if l∈tY s c++c.flatMap It.ids then none else s.blk l
   have Q:∀t,x t= .one (.lf .any)\/(f.slot t=x t/\∀l∈(x t).refs,l < s.next):=fun t=>by
    by_cases R:t∈W
    ·grind
    ·have e:x t=s.slot t:=kT R;rw[e];exact .inr ⟨O t R,z.slots t⟩
   have H:∀l u,C l=some u->l < s.next/\f.blk l=some u/\(∀r∈u.refs,r < s.next)/\l∉A.map (·.1):=fun l u y=>by
    by_cases b:l∈tY s c++c.flatMap It.ids
    ·grind
    ·have e:C l=s.blk l:=kT b;rw[e]at y;simp only[vN,not_or]at b;obtain⟨L,q2⟩:=z.blks l u y;refine⟨L,?_,q2,Z l L b.1⟩;have J:l∉o.map (·.1):=fun X=>by
      grind
     show look none f.blks l=some u
     rw[m,qB,kT J];exact y
   obtain⟨g',P,hs',T⟩:=ag1 (slot:=f.slot) (val:=fun t=>a.tmps.getD t undef) (nx:=s.next) hS B hs K i (Prod.eta _).symm F
    (fun l i=>⟨E l i,fun Y=>by
     grind⟩) Q H
   have e1:(zf c W s d).blk=uT (eU c d s.next).2.1 C:=by
    funext l;show look none ((eU c d s.next).2.1.map (fun q=>(q.1,some q.2))++_) l=_
    rw[Za];unfold uT;split
    ·grind
    ·rename_i U;rw[U];dsimp only;rw[qB,Qcy];have:(fun p:Nat×Option (Bk D)=>p.1)∘(fun k:Nat=>(k,(none:Option (Bk D))))=id:=rfl;rw[this,Qel];by_cases b:l∈tY s c++c.flatMap It.ids
     ·rw[nI b,apw b];grind
     ·rw[kT b];exact(kT b).symm
   have e2:(zf c W s d).slot=WY (eU c d s.next).1 x:=by
    funext t;show look _ ((eU c d s.next).1++_) t=_
    rw[Yy];unfold WY;split
    ·grind
    ·rename_i hy;rw[hy];dsimp only;rw[qB,Qcy];have:(fun p:Nat×Sl D=>p.1)∘(fun t:Nat=>(t,(.one (.lf .any):Sl D)))=id:=rfl;rw[this,Qel];by_cases b:t∈W
     ·rw[nI b,ayk b];grind
     ·rw[kT b];exact(kT b).symm
   refine⟨g',?_,?_,hn,G,fun l v i=>(T l (z.fU l v i)).trans (hm l v i)⟩
   ·rw[e1];exact P
   simp_all
  ·cases j
theorem YK {b:List It}{W:List Nat}{s:St D}{cs:List (List (Lf D))}:∃a,(zf b W s cs).blks=a++s.blks:=⟨_,(Qa2 _ _ _).symm⟩
theorem Ql {a:List It}{W:List Nat}{s:St D}{cs:List (List (Lf D))}(e:Af W a=true){t:Nat}(h:t∉W):(zf a W s cs).slot t=s.slot t:=by
 show look _ ((eU a cs s.next).1++_) t=look _ s.tmps t
 rw[qB,kT,qB,kT]
 ·grind
 ·intro d;obtain⟨⟨c,y⟩,b,rfl⟩:=JC.1 d;exact h (oW e c y b)
theorem akE {id:Nat}{b:Array Oper}{c:Bool}{s:St D}{m:Type 1}{A:Alg m}{den:m->Prop}(I:Zv A den){K:St D->m}{a:Act}{Q:Exit->Act->World->Prop}(u:P.follows .mixedOrders=true)(i:∀t p,T t=some p->eP P t p)(k:∀f z,Γ f=some z->fK P S f z)(y:iZ S)
  (o:(!c || zZ b)=true) (C:den (nT A T S Γ b n c b.toList 0 [] s K)) (h:pq S w0 g0 N n s a w)
  (J:∀d v q,pq S w0 g0 N n d v q->(∃r,d.blks=r++s.blks)->(∀t,t∉b.toList.filterMap (·.dst)->d.slot t=s.slot t)->den (K d)->Q .normal v q):(Code.region id b c).wp P Q a w:=by
 obtain⟨l,d,e,L,F,M,H,O,E,U⟩:=aar I _ _ _ _ C;simp only[Nat.mul_zero,Qb]at e;have g:b.toList.length=b.size:=by simp
 have x:∀t,t∉b.toList.filterMap (·.dst)->d.slot t=s.slot t:=fun t R=>by
  grind
 have B:∀a w,Holds S w0 g0 N n (FO s.slot l) (Jz s.blk l) (· < s.next+64*b.size) a w->Q .normal a w:=by
  intro a w G;refine J d a w ?_ E x H;unfold pq;rw[F,M,g,zM];exact G.alike L
 cases c with
 | false=>
  refine wp_region ?_;rw[List.range_eq_range',<-g];exact aiu i k y b.toList l 0 s.next s.slot s.blk a w (fun j=>by simp) e h au
 | true=>
  have o:zZ b=true:=by simpa using o
  exact af0 u i k y o e (ak2 (O rfl)) h B
theorem vO {a b c:List (Nat×Option (Bk D))}(e:∃p,b=p++a)(d:∃p,c=p++b):∃p,c=p++a:=by
 grind
theorem Iy {a:FT D}{W:List Nat}{s c:St D}{x:a.X}(b:rD S a)(h:apI a W s c=some x):∃cs,aaX (a.its s.slot) W s c=some cs/\aln S cs (a.enc x):=by
 unfold apI at h;split at h
 ·rename_i cs d;exact⟨cs,d,b.ok cs x h⟩
 ·cases h
theorem Bc {X R:Type}:∀a b:R,(Sum.inr a:X⊕R)= .inr b->a=b:=fun a b h=>by injection h
theorem amB {s:St D}{a:Act}(h:pq S w0 g0 N n s a w){o:Oper}{p:Prop}(b:avw S s o=some p):p:=by
 obtain⟨g,m,j,_⟩:=h;unfold avw at b;split at b
 ·split at b
  ·rename_i t _ _;have c:=j t;split at b
   ·rename_i d q;injection b with b
    subst b;rw[q]at c;exact dF.amN c
   ·rename_i x i;injection b with b
    subst b;rw[i]at c;exact c.2
   ·rename_i l i;split at b
    ·rename_i e d k;injection b with b
     subst b;obtain⟨v,_,f⟩:=m.dD l _ k;exact f.1.2.1
    ·cases b
   ·cases b
  ·cases b
 ·cases b
theorem Qm {s:St D}{a:Act}(h:pq S w0 g0 N n s a w){R:Type}{k:Tr D R}{e d:R}:∀(c:List Oper),(V9 S s k c).run e=some d->k.run e=some d
 | [],b=>b
 | o::r,b=>by
  unfold V9 at b;split at b
  ·rename_i p _ f;simp only[Tr.run]at b;rw[AO (amB h f)]at b;exact Qm h r b
  ·exact Qm h r b
theorem Xd {J:Nat->Option (FT D)}(hJ:∀i L,J i=some L->rD S L)(hmx:P.follows .mixedOrders=true)(hTy:∀t ty,T t=some ty->eP P t ty)(hΓ:∀f ct,Γ f=some ct->fK P S f ct)(hS:iZ S):
  ∀(c:Code) (R:Type) (s:St D) (K:Ex->St D->Tr D R) (H G:R) (Q:Exit->Act->World->Prop) (a:Act) (w:World),sG c=true->(MQ T S Γ n J c R s K).run H=some G->pq S w0 g0 N n s a w->
   (∀e o A B,pq S w0 g0 N n o A B->(∃M,o.blks=M++s.blks)->(∀t,t∉writes c->o.slot t=s.slot t)->(K e o).run H=some G->Q (aJb e) A B)->c.wp P Q a w:=by
 intro c;induction c with
 | skip=>intro R s K H G Q a w _ u h F;exact wp_skip (F .normal s a w h ⟨[],rfl⟩ (fun _ _=>rfl) u)
 | region id ops draw=>
  intro R s K H G Q a w I u h F;refine akE (den:=fun t:Tr D R=>t.run H=some G) (awf H G) hmx hTy hΓ hS I u h fun o A B C E z d=> ?_;have d:=Qm C _ d;split at d
  ·exact F .normal o A B C E z d
  ·rename_i L hsh;split at d
   ·rename_i x O;obtain⟨cs,U,q2⟩:=Iy (hJ _ L hsh) O;exact F .normal _ A B (TS hS (adB C) C ⟨[],rfl⟩ (fun _ _=>rfl) U q2) (vO E YK) (fun t v=>(Ql (Gh U) kM).trans (z t v)) d
   ·cases d
 | seq x y ihx ihy=>
  intro R s K H G Q a w I u h F;simp only[sG,jA]at I;simp only[MQ]at u;have hw:∀{t:Nat},t∉writes (.seq x y)->t∉writes x/\t∉writes y:=fun{t} v=>by
   simp only[writes,vN,not_or]at v;exact v
  split at u
  ·refine wp_seq (ihx R s _ H G _ a w I.1 u h fun e o A B C E z d=> ?_);cases e with
   | normal=>exact ihy R o K H G Q A B I.2 d C fun e s2 a2 w2 k k1 k2 k3=>F e s2 a2 w2 k (vO E k1) (fun t v=>(k2 t (hw v).2).trans (z t (hw v).1)) k3
   | exit i=>exact F (.exit i) o A B C E (fun t v=>z t (hw v).1) d
   | ret=>exact F .ret o A B C E (fun t v=>z t (hw v).1) d
  ·rename_i L hsh;have hok:=hJ _ L hsh;have v:=adB h;rcases Wp u with⟨x0,hv1,hv2⟩ | hv1
   ·refine wp_seq (ihx _ s _ _ _ _ a w I.1 hv1 h fun e o A B C E z d=> ?_);cases e with
    | normal=>
     dsimp only at d;split at d
     ·rename_i x1 hx1;injection d with d
      injection d with d
      subst d;obtain⟨cs,U,q2⟩:=Iy hok hx1;refine ihy R _ K H G Q A B I.2 hv2 (TS hS v C E z U q2) fun e s2 a2 w2 k k1 k2 k3=>F e s2 a2 w2 k (vO YK k1) (fun t v=>(k2 t (hw v).2).trans (Ql (Gh U) (hw v).1)) k3
     ·cases d
    | exit i=>
     obtain⟨r,q,_⟩:=Tr.run_map _ _ _ Bc _ _ d;cases q
    | ret=>
     obtain⟨r,q,_⟩:=Tr.run_map _ _ _ Bc _ _ d;cases q
   ·refine wp_seq (ihx _ s _ _ _ _ a w I.1 hv1 h fun e o A B C E z d=> ?_);cases e with
    | normal=>
     dsimp only at d;split at d
     ·injection d with d;cases d
     ·cases d
    | exit i=>
     obtain⟨r,q,V⟩:=Tr.run_map _ _ _ Bc _ _ d;injection q with q
     subst q;exact F (.exit i) o A B C E (fun t v=>z t (hw v).1) V
    | ret=>
     obtain⟨r,q,V⟩:=Tr.run_map _ _ _ Bc _ _ d;injection q with q
     subst q;exact F .ret o A B C E (fun t v=>z t (hw v).1) V
 | cond c x y ihx ihy=>
  intro R s K H G Q a w I u h F;simp only[sG,jA]at I;simp only[MQ]at u;have hh:=h;obtain⟨g,hp,hs,_⟩:=h;have W:=pR hs c;have X:=fun u=>ihx R s K H G Q a w I.1 u hh fun e o A B C E z d=>F e o A B C E (fun t v=>z t (by simp only[writes,vN,not_or]at v;exact v.1)) d
  have Y:=fun u=>ihy R s K H G Q a w I.2 u hh fun e o A B C E z d=>F e o A B C E (fun t v=>z t (by simp only[writes,vN,not_or]at v;exact v.2)) d
  split at u
  ·rename_i b hb;rw[hb]at W;cases b with
   | true=>exact wp_cond_true W (X u)
   | false=>exact wp_cond_false W (Y u)
  ·rename_i hb;rw[hb]at W;exact wp_cond_true W (X u)
  ·rename_i hb;rw[hb]at W;exact wp_cond_false W (Y u)
  ·rename_i p hb;rw[hb]at W;obtain⟨b,hvb,hpb⟩:=W;obtain⟨_,U,q2⟩:=abO u;cases b with
   | true=>exact wp_cond_true hvb (X (U hpb))
   | false=>exact wp_cond_false hvb (Y (q2 hpb))
  ·cases u
 | scope b ih=>
  intro R s K H G Q a w I u h F;refine wp_scope_straight (ih R s K H G _ a w I u h fun e o A B C E z d=> ?_);cases e with
  | normal=>exact F .normal o A B C E z d
  | exit j=>exact F (.exit j) o A B C E z d
  | ret=>exact F .ret o A B C E z d
 | label l=>intro R s K H G Q a w _ u h F;exact wp_label (F .normal s a w h ⟨[],rfl⟩ (fun _ _=>rfl) u)
 | block id b ih=>
  intro R s K H G Q a w I u h F;refine wp_block (ih R s _ H G _ a w I u h fun e o A B C E z d=> ?_);cases e with
  | normal=>exact F .normal o A B C E z d
  | exit j=>
   simp only at d;show Exit.inBlock id Q (.exit j) A B
   simp only[Exit.inBlock];split at d
   ·rename_i hj;rw[nI (Qa hj)];exact F .normal o A B C E z d
   ·rename_i hj;rw[kT (by rintro rfl;simp at hj)];exact F (.exit j) o A B C E z d
  | ret=>exact F .ret o A B C E z d
 | loop b ih=>
  intro R s K H G Q a w I u h F;simp only[MQ]at u;split at u
  ·split at u
   ·cases u
   rename_i shu _;generalize d:(shu.its fun _=> .one (.lf .any)).length=k at u;refine wp_loop_ghost (fun m a w=>∃o,(Nat.rec (motive:=fun _=>St D->Tr D R) (fun s=> .halt (700000+nG b) s) (fun _ ih s=>MQ T S Γ n J b R s fun e o=>
    match e with
    | .normal=>ih o
    | .exit i=>K (.exit i) o
    | .ret=>K .ret o) m o:Tr D R).run H=some G/\pq S w0 g0 N n o a w/\(∃M,o.blks=M++s.blks)/\∀t,t∉writes b->o.slot t=s.slot t) k ⟨s,u,h,⟨[],rfl⟩,fun _ _=>rfl⟩ ?_
   rintro m a w ⟨s1,V,hh,hp1,hs1⟩;cases m with
   | zero=>cases V
   | succ m=>
    refine ih _ _ _ _ _ _ a w I V hh fun e o A B C E z d=> ?_;cases e with
    | normal=>exact⟨m,by omega,o,d,C,vO hp1 E,fun t v=>(z t v).trans (hs1 t v)⟩
    | exit i=>exact F (.exit i) o A B C (vO hp1 E) (fun t v=>(z t v).trans (hs1 t v)) d
    | ret=>exact F .ret o A B C (vO hp1 E) (fun t v=>(z t v).trans (hs1 t v)) d
  rename_i L hsh;have hok:=hJ _ L hsh;have v:=adB h;split at u
  ·cases u
  rename_i x0 hx0;obtain⟨cs0,U,q2⟩:=Iy hok hx0;have hsl:=Gh U;obtain⟨m0,hm0⟩:=zo u;refine wp_loop_ghost (fun m a w=>∃x,qm _ m x=some G/\pq S w0 g0 N n (zf (L.its s.slot) (writes b) s (L.enc x)) a w) m0 ⟨x0,hm0,TS hS v h ⟨[],rfl⟩ (fun _ _=>rfl) U q2⟩ ?_;rintro m a w ⟨x,O,hh⟩;cases m with
  | zero=>simp[qm]at O
  | succ m=>
   have back:∀o:St D,(∃M,o.blks=M++(zf (L.its s.slot) (writes b) s (L.enc x)).blks)->∃M,o.blks=M++s.blks:=fun o E=>vO YK E
   have ayH:∀o:St D,(∀t,t∉writes b->o.slot t=(zf (L.its s.slot) (writes b) s (L.enc x)).slot t)->∀t,t∉writes b->o.slot t=s.slot t:=fun o z t v=>(z t v).trans (Ql hsl v)
   unfold qm at O;split at O
   ·cases O
   ·rename_i x' Z;refine ih _ _ _ _ _ _ a w I Z hh fun e o A B C E z d=> ?_;cases e with
    | normal=>
     dsimp only at d;split at d
     ·rename_i x1 hx1;injection d with d
      injection d with d
      subst d;obtain⟨cs,k1,k2⟩:=Iy hok hx1;exact⟨m,by omega,_,O,TS hS v C (back o E) (ayH o z) k1 k2⟩
     ·cases d
    | exit i=>
     obtain⟨r,q,_⟩:=Tr.run_map _ _ _ Bc _ _ d;cases q
    | ret=>
     obtain⟨r,q,_⟩:=Tr.run_map _ _ _ Bc _ _ d;cases q
   ·rename_i r1 Z;injection O with O
    subst O;refine ih _ _ _ _ _ _ a w I Z hh fun e o A B C E z d=> ?_;cases e with
    | normal=>
     dsimp only at d;split at d
     ·injection d with d;cases d
     ·cases d
    | exit i=>
     obtain⟨r,q,V⟩:=Tr.run_map _ _ _ Bc _ _ d;injection q with q
     subst q;exact F (.exit i) o A B C (back o E) (ayH o z) V
    | ret=>
     obtain⟨r,q,V⟩:=Tr.run_map _ _ _ Bc _ _ d;injection q with q
     subst q;exact F .ret o A B C (back o E) (ayH o z) V
 | exit id=>intro R s K H G Q a w _ u h F;exact wp_exit (F (.exit id) s a w h ⟨[],rfl⟩ (fun _ _=>rfl) u)
 | ret=>intro R s K H G Q a w _ u h F;exact wp_ret (F .ret s a w h ⟨[],rfl⟩ (fun _ _=>rfl) u)
 | _=>intro R s K H G Q a w _ u;cases u
end
end Go.Vc

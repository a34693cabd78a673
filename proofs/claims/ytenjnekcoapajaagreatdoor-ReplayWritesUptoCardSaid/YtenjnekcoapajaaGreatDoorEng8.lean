/- Own engine: Vdm. -/
import Derived.Test.YtenjnekcoapajaaGreatDoorEng7
import Derived.Scope
set_option linter.unusedVariables false
set_option linter.unusedSimpArgs false
namespace Go.Vc
open Go.RowKit
section
variable {R R' X:Type}
open Classical in
noncomputable def need (p:Prop)(k:Option R):Option R:=if p then k else none
open Classical in
noncomputable def both (p:Bool->Prop)(t e:Option R):Option R:=
 if h:(∃b,p b)/\∃r,(p true->t=some r)/\(p false->e=some r)then some (Classical.choose h.2)else none
open Classical in
noncomputable def asm (p:Prop)(e:R)(k:Option R):Option R:=if p then k else some e
def loopM (step:X->Option (X⊕R)):Nat->X->Option R
 | 0,_=>none
 | n+1,x=>match step x with
  | none=>none
  | some (.inl a)=>loopM step n a
  | some (.inr r)=>some r
open Classical in
noncomputable def pR (step:X->Option (X⊕R))(x:X):Option R:=
 if h:∃r n,loopM step n x=some r then some (Classical.choose h)else none
def amW (a:Option (X⊕R))(k:X->Option R):Option R:=
 match a with
 | none=>none
 | some (.inl x)=>k x
 | some (.inr r)=>some r
theorem yJ {p:Prop}{e:R}{k:Option R}(h:p):asm p e k=k:=by unfold asm;exact vJ h
theorem CO {p:Prop}{e:R}{k:Option R}(h:¬p):asm p e k=some e:=by unfold asm;exact uU h
theorem xN {p:Prop}{k:Option R}(h:p):need p k=k:=by unfold need;exact vJ h
theorem YS {p:Prop}{k:Option R}{r:R}(h:need p k=some r):p/\k=some r:=by
 unfold need at h
 grind
@[simp] theorem aGi {k:Option R}:need True k=k:=xN trivial
theorem ZX {p:Bool->Prop}{t e:Option R}{r:R}(h:both p t e=some r):(∃b,p b)/\(p true->t=some r)/\(p false->e=some r):=by
 unfold both at h;split at h
 ·rename_i a;injection h with h
  subst h;exact⟨a.1,Qcs a.2⟩
 ·cases h
theorem abg {p:Bool->Prop}{t e:Option R}{r:R}(h:∃b,p b)(a:p true->t=some r)(c:p false->e=some r):both p t e=some r:=by
 unfold both;rw[dif_pos ⟨h,r,a,c⟩];obtain⟨f,d⟩:=Qcs (⟨r,a,c⟩:∃r,(p true->t=some r)/\(p false->e=some r));obtain⟨b,g⟩:=h;cases b with
 | true=>grind
 | false=>grind
theorem VN {step:X->Option (X⊕R)}:∀{n m:Nat} {x:X} {r:R},loopM step n x=some r->n<=m->loopM step m x=some r
 | 0,_,_,_,h,_=>by simp[loopM]at h
 | n+1,0,_,_,_,h=>by omega
 | n+1,m+1,x,r,h,a=>by
  unfold loopM at h⊢;split at h
  ·cases h
  ·exact VN h aj
  ·exact h
theorem Jl {step:X->Option (X⊕R)}{n:Nat}{x:X}{r:R}(h:loopM step n x=some r):pR step x=some r:=by
 unfold pR;have a:∃r n,loopM step n x=some r:=⟨r,n,h⟩
 grind [VN]
theorem loopU_spec {step:X->Option (X⊕R)}{x:X}{r:R}(h:pR step x=some r):∃n,loopM step n x=some r:=by
 unfold pR at h;split at h
 ·rename_i a;injection h with h
  subst h;exact Qcs a
 ·cases h
theorem xM (step:X->Option (X⊕R))(x:X):pR step x=match step x with
  | none=>none
  | some (.inl d)=>pR step d
  | some (.inr r)=>some r:=by
 cases c:step x with
 | none=>
  cases b:pR step x with
  | none=>rfl
  | some r=>
   obtain⟨n,a⟩:=loopU_spec b;cases n with
   | zero=>simp[loopM]at a
   | succ n=>simp[loopM,c]at a
 | some y=>
  cases y with
  | inr r=>exact Jl (n:=1) (by simp[loopM,c])
  | inl d=>
   dsimp only;cases b:pR step d with
   | some r=>
    obtain⟨n,a⟩:=loopU_spec b;exact Jl (n:=n+1) (by simp[loopM,c,a])
   | none=>
    cases e:pR step x with
    | none=>rfl
    | some r=>
     obtain⟨n,a⟩:=loopU_spec e;cases n with
     | zero=>simp[loopM]at a
     | succ n=>
      simp only[loopM,c]at a;rw[Jl a]at b;cases b
theorem VR {a:Option (X⊕R)}{k:X->Option R}{r:R}(h:amW a k=some r):(∃x,a=some (.inl x)/\k x=some r)\/a=some (.inr r):=by
 unfold amW at h
 grind
end
inductive Tr (D:Type):Type->Type 1 where
 | ret {R:Type} (r:R):Tr D R
 | stuck {R:Type} (n:Nat):Tr D R
 | halt {R:Type} (n:Nat) (s:St D):Tr D R
 | ob {R:Type} (p:DP) (k:Tr D R):Tr D R
 | as {R:Type} (p:Prop) (k:Tr D R):Tr D R
 | br {R:Type} (b:Bool) (t e:Tr D R):Tr D R
 | unk {R:Type} (p:Bool->Prop) (t e:Tr D R):Tr D R
 | loop {R:Type} (X:Type) (x:X) (body:X->Tr D (X⊕R)):Tr D R
 | cut {R:Type} (X:Type) (a:Tr D (X⊕R)) (k:X->Tr D R):Tr D R
section
variable {D:Type}
noncomputable def Tr.run:{R:Type}->Tr D R->R->Option R
 | _, .ret r,_=>some r
 | _, .stuck _,_=>none
 | _, .halt _ _,_=>none
 | _, .ob p k,r=>need p.p (k.run r)
 | _, .as p k,r=>asm p r (k.run r)
 | _, .br b t e,r=>cond b (t.run r) (e.run r)
 | _, .unk p t e,r=>both p (t.run r) (e.run r)
 | _, .loop X x c,r=>pR (fun y=>(c y).run (.inr r)) x
 | _, .cut X a k,r=>amW (a.run (.inr r)) fun x=>(k x).run r
def Tr.map:{R:Type}->(c:Type)->(R->c)->Tr D R->Tr D c
 | _,_,f, .ret r=> .ret (f r)
 | _,_,_, .stuck n=> .stuck n
 | _,_,_, .halt n s=> .halt n s
 | _,c,f, .ob p k=> .ob p (k.map c f)
 | _,c,f, .as p k=> .as p (k.map c f)
 | _,c,f, .br b t e=> .br b (t.map c f) (e.map c f)
 | _,c,f, .unk p t e=> .unk p (t.map c f) (e.map c f)
 | _,c,f, .loop X x d=> .loop X x fun y=>(d y).map (X⊕c) (Sum.map id f)
 | _,c,f, .cut X a k=> .cut X (a.map (X⊕c) (Sum.map id f)) fun x=>(k x).map c f
theorem ama {X R c:Type}{f:R->c}(d:∀a b,f a=f b->a=b):∀a b:X⊕R,Sum.map id f a=Sum.map id f b->a=b
 | .inl a, .inl b,h=>by simpa using h
 | .inr a, .inr b,h=>by grind
 | .inl a, .inr b,h=>by simp at h
 | .inr a, .inl b,h=>by simp at h
theorem Tr.run_map:{R:Type}->(t:Tr D R)->(d:Type)->(f:R->d)->(∀a b,f a=f b->a=b)->(c:R)->(g:d)->(t.map d f).run (f c)=some g->∃r,g=f r/\t.run c=some r
 | _, .ret r,d,f,i,c,g,h=>by injection h with h;exact⟨r,h.symm,rfl⟩
 | _, .stuck n,d,f,i,c,g,h=>by cases h
 | _, .halt n s,d,f,i,c,g,h=>by cases h
 | _, .ob p k,d,f,i,c,g,h=>by
  obtain⟨j,q⟩:=YS h;obtain⟨r,e,C⟩:=Tr.run_map k d f i c g q;exact⟨r,e,by simp only[Tr.run];simp_all⟩
 | _, .as p k,d,f,i,c,g,h=>by
  by_cases v:p
  ·have h:(k.map d f).run (f c)=some g:=by simp only[Tr.map,Tr.run]at h;rwa [yJ v]at h
   obtain⟨r,e,C⟩:=Tr.run_map k d f i c g h;exact⟨r,e,by simp only[Tr.run];rw[yJ v];exact C⟩
  ·simp only[Tr.map,Tr.run]at h;rw[CO v]at h;injection h with h
   exact⟨c,h.symm,by simp only[Tr.run];rw[CO v]⟩
 | _, .br b t e,d,f,i,c,g,h=>by
  cases b with
  | true=>exact Tr.run_map t d f i c g h
  | false=>exact Tr.run_map e d f i c g h
 | _, .unk p t e,d,f,i,c,g,h=>by
  obtain⟨⟨b,w⟩,j,q⟩:=ZX h;cases b with
  | true=>
   obtain⟨r,o,m⟩:=Tr.run_map t d f i c g (j w);refine⟨r,o,abg ⟨true,w⟩ (fun _=>m) fun u=> ?_⟩;obtain⟨I,H,G⟩:=Tr.run_map e d f i c g (q u)
   grind
  | false=>
   obtain⟨r,o,m⟩:=Tr.run_map e d f i c g (q w);refine⟨r,o,abg ⟨false,w⟩ (fun u=> ?_) fun _=>m⟩;obtain⟨I,H,G⟩:=Tr.run_map t d f i c g (j u)
   grind
 | _, .loop X x l,d,f,i,c,g,h=>by
  obtain⟨n,J⟩:=loopU_spec h;have L:=fun y=>Tr.run_map (l y) (X⊕d) (Sum.map id f) (ama i) (.inr c)
  have F:∀(n:Nat) (x:X),loopM (fun y=>((l y).map (X⊕d) (Sum.map id f)).run (.inr (f c))) n x=some g->∃r,g=f r/\loopM (fun y=>(l y).run (.inr c)) n x=some r:=by
   intro n;induction n with
   | zero=>intro x h;simp[loopM]at h
   | succ n K=>
    grind [loopM]
  obtain⟨r,o,m⟩:=F n x J;exact⟨r,o,Jl m⟩
 | _, .cut X a k,d,f,i,c,g,h=>by
  have A:=Tr.run_map a (X⊕d) (Sum.map id f) (ama i) (.inr c);have E:=fun x=>Tr.run_map (k x) d f i c
  rcases VR h with⟨x,j,q⟩ | j
  ·obtain⟨z,e,B⟩:=A _ j;cases z with
   | inr z=>simp at e
   | inl z=>
    simp at e;subst e;obtain⟨r,o,m⟩:=E x g q;exact⟨r,o,by simp only[Tr.run];rw[B];exact m⟩
  ·obtain⟨z,e,B⟩:=A _ j;cases z with
   | inl z=>simp at e
   | inr z=>
    simp at e;exact⟨z,e,by simp only[Tr.run];rw[B];rfl⟩
def aCa (D R:Type):Alg (Tr D R):=⟨.stuck 1, .ob, .br⟩
theorem ar4 {R:Type}(a c:R):Ha (aCa D R) fun t=>t.run a=some c:=by
 refine⟨fun h=> ?_,fun{p k} h=>YS h,fun{b t e} h=> ?_⟩
 ·cases h
 ·cases b with
  | true=>exact⟨fun _=>h,fun e=>by cases e⟩
  | false=>exact⟨(fun e=>by cases e),fun _=>h⟩
structure Shp (D:Type):Type 1 where
 X:Type
 its:(Nat->Sl D)->List It
 enc:X->List (List (Lf D))
 dec:List (List (Lf D))->Option X
def pid:Sl D->Nat
 | .one (.lf (.ptr l _))=>l
 | .one (.lf (.opt l _ _ _))=>l
 | .one (.lf (.own l))=>l
 | _=>1000000000
class ShpOk (S:Sh D) (sh:Shp D):Prop where
 ok:∀cs x,sh.dec cs=some x->aij S cs (sh.enc x)
inductive Ex where
 | normal
 | exit (id:Nat)
 | ret
def exOf:Ex->Exit
 | .normal=> .normal
 | .exit id=>(match Nat.blt id 1000000 with
  | true=> .exit id
  | false=> .goto (id - 1000000))
 | .ret=> .ret
def rM:Code->Nat
 | .region id _ _=>id
 | .seq a _=>rM a
 | .cond _ a _=>rM a
 | .block _ b=>rM b
 | .loop b=>rM b
 | .scope b=>rM b
 | _=>0
def drawsOk:Code->Bool
 | .region _ ops c=> !c || yY ops
 | .seq a b=>drawsOk a && drawsOk b
 | .cond _ a b=>drawsOk a && drawsOk b
 | .block id b=>Nat.blt id 1000000 && drawsOk b
 | .loop b=>drawsOk b
 | .scope b=>drawsOk b
 | .exit id=>Nat.blt id 1000000
 | _=>true
def writes:Code->List Nat
 | .region _ ops _=>ops.toList.filterMap (·.dst)
 | .seq a b=>writes a++writes b
 | .cond _ a b=>writes a++writes b
 | .block _ b=>writes b
 | .loop b=>writes b
 | .scope b=>writes b
 | _=>[]
def qE (s:St D):List It->List Nat
 | []=>[]
 | .slot t _ _::a=>(s.slot t).owns++qE s a
 | .cells l _::a=>(match s.blk l with
  | some (.cells b)=>b.flatMap Lf.owns
  | _=>[])++qE s a
 | .row _ _::a=>qE s a
 | .iter _::a=>qE s a
 | .ada _::a=>qE s a
 | .tcs l _ _::a=>(match s.blk l with
  | some (.tc _ b)=>b.flatMap Lf.owns
  | _=>[])++qE s a
def Rt (s a:St D):List Nat:=(a.blks.take (a.blks.length - s.blks.length)).map (·.1)
def V7:List Nat->Bool
 | []=>true
 | x::r=> !rP x r && V7 r
def slotsIn (W:List Nat):List It->Bool
 | []=>true
 | .slot t _ _::a=>rP t W && slotsIn W a
 | _::a=>slotsIn W a
def YI (a:List It)(W:List Nat)(s b:St D):Option (List (List (Lf D))):=
 match DV b.slot b.blk a with
 | none=>none
 | some (cs,c)=>
  if V7 (c.map (·.1)) && (c.all fun p=>(Nat.ble s.next p.1 || rP p.1 (qE s a)) && !rP p.1 (a.flatMap It.ids)) && ((a.flatMap It.ids).all fun l=>Nat.blt l s.next) &&
   ((Rt s b).all fun k=>Nat.ble s.next k || rP k (a.flatMap It.ids) || rP k (qE s a)) && slotsIn W a then some cs else none
def headSt (a:List It)(W:List Nat)(s:St D)(cs:List (List (Lf D))):St D:=
 let p:=dK a cs s.next
 ⟨p.1++((W.map fun t=>(t, .one (.lf .any)))++s.tmps),(p.2.1.map fun q=>(q.1,some q.2))++(((qE s a++a.flatMap It.ids).map fun k=>(k,none))++s.blks),p.2.2⟩
def decX (a:Shp D)(W:List Nat)(s b:St D):Option a.X:=
 match YI (a.its s.slot) W s b with
 | some cs=>a.dec cs
 | none=>none
def asf (S:Sh D)(s:St D)(o:Oper):Option Prop:=
 match o.op with
 | .call c=>(match c.callee,c.args.toList with
  | .builtin .len,[.tmp t]=>(match s.slot t with
   | .one (.lf (.dat d))=>some (S.len d<=9223372036854775807)
   | .one (.lf (.str x))=>some (x.length<=9223372036854775807)
   | .one (.lf (.own l))=>(match s.blk l with
    | some (.row _ d)=>some (S.len d<=9223372036854775807)
    | _=>none)
   | _=>none)
  | _,_=>none)
 | _=>none
def aJb (d:Option Nat)(o:Oper):Bool:=
 match d,o.op with
 | some d, .binOp _ _ (.tmp x) (.const _) _=>Nat.beq x d
 | some d, .binOp _ _ (.const _) (.tmp x) _=>Nat.beq x d
 | _,_=>false
def aeN (S:Sh D)(s:St D){R:Type}(k:Tr D R):List Oper->Tr D R
 | []=>k
 | o::r=>(match r.any (aJb o.dst),asf S s o with
  | false,some p=> .as p (aeN S s k r)
  | _,_=>aeN S s k r)
def scopeK {X:Type}{a:Type 1}(b:X->a)(K:Ex->X->a):Ex->X->a
 | .normal,s=>K .normal s
 | .exit i,s=>(match Nat.blt i 1000000 with
  | true=>K (.exit i) s
  | false=>b s)
 | .ret,s=>K .ret s
def evC (T:TypeId->Option Ty)(S:Sh D)(g:FuncId->Option (Ct D))(n:Nat)(J:Nat->Option (Shp D)):Code->(R:Type)->St D->(Ex->St D->Tr D R)->Tr D R
 | .skip,R,s,K=>K .normal s
 | .region id ops h,R,s,K=>mi aBv (aCa D R) T S g ops n h ops.toList 0 [] s fun f=>aeN S f (match J (800000+id)with
  | none=>K .normal f
  | some d=>(match decX d [] f f with
   | some x=>K .normal (headSt (d.its f.slot) [] f (d.enc x))
   | none=> .halt (800000+id) f)) ops.toList
 | .seq a b,R,s,K=>
  match J (100000+rM b)with
  | none=>evC T S g n J a R s fun e s=>
   match e with
   | .normal=>evC T S g n J b R s K
   | .exit i=>K (.exit i) s
   | .ret=>K .ret s
  | some d=> .cut d.X (evC T S g n J a (d.X⊕R) s fun e f=>
   match e with
   | .normal=>(match decX d (writes a) s f with
    | some x=> .ret (.inl x)
    | none=> .halt (200000+rM b) f)
   | .exit i=>(K (.exit i) f).map (d.X⊕R) .inr
   | .ret=>(K .ret f).map (d.X⊕R) .inr) fun x=>evC T S g n J b R (headSt (d.its s.slot) (writes a) s (d.enc x)) K
 | .cond c x y,R,s,K=>
  match aP s.slot c with
  | .one (.lf (.bool b))=> .br b (evC T S g n J x R s K) (evC T S g n J y R s K)
  | .one (.lf (.val (.bool true)))=>evC T S g n J x R s K
  | .one (.lf (.val (.bool false)))=>evC T S g n J y R s K
  | .one (.lf (.unk p))=> .unk p (evC T S g n J x R s K) (evC T S g n J y R s K)
  | _=> .halt 2 s
 | .block id b,R,s,K=>evC T S g n J b R s fun e s=>
  match e with
  | .normal=>K .normal s
  | .exit j=>(match Nat.beq j id with
   | true=>K .normal s
   | false=>K (.exit j) s)
  | .ret=>K .ret s
 | .loop b,R,s,K=>
  match J (rM b)with
  | none=>(match J (600000+rM b)with
   | none=> .halt (300000+rM b) s
   | some d=>Nat.rec (motive:=fun _=>St D->Tr D R) (fun s=> .halt (700000+rM b) s) (fun _ k s=>evC T S g n J b R s fun e f=>
    match e with
    | .normal=>k f
    | .exit i=>K (.exit i) f
    | .ret=>K .ret f) (d.its fun _=> .one (.lf .any)).length s)
  | some d=>
   match decX d (writes b) s s with
   | none=> .halt (400000+rM b) s
   | some m=> .loop d.X m fun x=>evC T S g n J b (d.X⊕R) (headSt (d.its s.slot) (writes b) s (d.enc x)) fun e f=>
    match e with
    | .normal=>(match decX d (writes b) s f with
     | some o=> .ret (.inl o)
     | none=> .halt (500000+rM b) f)
    | .exit i=>(K (.exit i) f).map (d.X⊕R) .inr
    | .ret=>(K .ret f).map (d.X⊕R) .inr
 | .exit id,R,s,K=>K (.exit id) s
 | .ret,R,s,K=>K .ret s
 | .scope b,R,s,K=>evC T S g n J b R s (scopeK (.halt 9) K)
 | .goto l,R,s,K=>K (.exit (1000000+l)) s
 | .label _,R,s,K=>K .normal s
 | _,_,s,_=> .halt 3 s
end
section
variable {D:Type}{P:Program}{S:Sh D}{T:TypeId->Option Ty}{Γ:FuncId->Option (Ct D)}{N:Nat->Prop}{w w':World}{w0:Bs}{g0:Nat->Option Value}{n:Nat}
def HoldsSt (S:Sh D)(b:Bs)(c:Nat->Option Value)(N:Nat->Prop)(n:Nat)(s:St D)(a:Act)(w:World):Prop:=Holds S b c N n s.slot s.blk (· < s.next) a w
structure Tidy (g0:Nat->Option Value)(s:St D):Prop where
 slots:∀t,∀l∈(s.slot t).refs,l < s.next
 blks:∀l bk,s.blk l=some bk->l < s.next/\∀r∈bk.refs,r < s.next
 eG:∀l v,g0 l=some v->l < s.next
theorem Ye {g:Nat->Option Value}:∀{b:List Nat} {d:List Value},b.map g=d.map some->∀l∈b,∃u,g l=some u
 | [],_,_,l,a=>by simp at a
 | c::cs,[],h,l,a=>by simp at h
 | c::cs,v::d,h,l,a=>by
  simp only[Qp,Qdk]at h;rcases yw.1 a with rfl | a
  ·grind
  ·exact Ye h.2 l a
theorem Lf.iU {M:Nat->Prop}{g:Nat->Option Value}{x:Lf D}{v:Value}(h:x.Rel S M w g v):∀l∈x.refs,∃u,g l=some u:=by
 cases x<;>simp only[Lf.refs]<;>intro l c
 case ptr l' o=>simp at c;subst c;obtain⟨b,d,_⟩:=h;grind
 case own l'=>simp at c;subst c;exact⟨_,h⟩
 case opt l' i j sz=>simp at c;subst c;obtain⟨b,n,e,d,_⟩:=h;grind
 case fn f caps=>obtain⟨m,_,k⟩:=h;exact Ye k l c
 case part l' i j sz f=>simp at c;subst c;obtain⟨a,n,e,d,_⟩:=h;grind
 all_goals simp at c
theorem aW.iU {M:Nat->Prop}{g:Nat->Option Value}:∀{b:List (Lf D)} {c:List Value},aW S M w g b c->∀l∈b.flatMap Lf.refs,∃u,g l=some u
 | [],_,_,l,a=>by simp at a
 | x::b,v::c,h,l,a=>by
  simp only[Qdc,vO]at a;rcases a with a | a
  ·exact Lf.iU h.1 l a
  ·exact aW.iU h.2 l a
theorem Sv.iU {M:Nat->Prop}{g:Nat->Option Value}{x:Sv D}{v:Value}(h:x.Rel S M w g v):∀l∈x.refs,∃u,g l=some u:=by
 cases x with
 | lf x=>exact Lf.iU h
 | agg c=>obtain⟨b,_,a⟩:=h;exact aW.iU a
theorem fP.iU {M:Nat->Prop}{g:Nat->Option Value}:∀{b:List (Sv D)} {c:List Value},fP S M w g b c->∀l∈b.flatMap Sv.refs,∃u,g l=some u
 | [],_,_,l,a=>by simp at a
 | x::b,v::c,h,l,a=>by
  simp only[Qdc,vO]at a;rcases a with a | a
  ·exact Sv.iU h.1 l a
  ·exact fP.iU h.2 l a
theorem Sl.iU {M:Nat->Prop}{g:Nat->Option Value}{x:Sl D}{v:Value}(h:x.Rel S M w g v):∀l∈x.refs,∃u,g l=some u:=by
 cases x with
 | one x=>exact Sv.iU h
 | Dh c=>obtain⟨b,_,a⟩:=h;exact fP.iU a
theorem tidy_of {s:St D}{a:Act}(h:HoldsSt S w0 g0 N n s a w):Tidy g0 s:=by
 obtain⟨g,c,z,E,C,A⟩:=h;refine⟨fun t l o=> ?_,fun l m x=>⟨?_,fun r f=> ?_⟩,fun l v o=>c.al l v (A l v o)⟩
 ·obtain⟨u,i⟩:=Sl.iU (z t) l o;exact c.al l u i
 ·obtain⟨v,q,_⟩:=c.bY l m x;exact c.al l v q
 ·obtain⟨v,q,k⟩:=c.bY l m x;cases m with
  | cells cs=>
   obtain⟨b,y,t,_,_,_,j⟩:=k;obtain⟨u,i⟩:=aW.iU j r f;exact c.al r u i
  | row e d=>simp[Bk.refs]at f
  | wY d=>simp[Bk.refs]at f
  | iter s p=>simp[Bk.refs]at f
  | map B=>simp[Bk.refs]at f
  | tc t cs=>
   obtain⟨b,y,_,_,_,j⟩:=k;obtain⟨u,i⟩:=aW.iU j r f;exact c.al r u i
theorem Nl:∀{l:List Nat},V7 l=true->l.Nodup
 | [],_=>Qdr
 | x::r,h=>by
  simp only[V7,iZ,Qbf]at h;exact List.nodup_cons.2 ⟨fun a=>by rw[fC.2 a]at h;simp at h,Nl h.2⟩
theorem KL {x:Nat}{l:List Nat}(h:rP x l=false):x∉l:=fun a=>by rw[fC.2 a]at h;cases h
theorem qJ {c:Type}(d:c)(a b:List (Nat×c))(l:Nat):look d (a++b) l=if l∈a.map (·.1)then look d a l else look d b l:=by
 induction a with
 | nil=>simp
 | cons p r f=>
  obtain⟨k,v⟩:=p;simp only[Qbn,look];by_cases h:l=k
  ·subst h;simp
  ·have:¬(l.beq k=true):=fun e=>h (Qa e)
   grind
theorem aq_ {W:List Nat}{t:Nat}(h:t∈W):look (.one (.lf .any)) (W.map fun t=>(t,(.one (.lf .any):Sl D))) t= .one (.lf .any):=by
 induction W with
 | nil=>simp at h
 | cons x r a=>
  simp only[Qp,look];split
  ·rfl
  ·rename_i b;rcases yw.1 h with rfl | h
   ·simp at b
   ·exact a h
theorem an1 {W:List Nat}{t:Nat}(h:t∈W):look none (W.map fun t=>(t,(none:Option (Bk D)))) t=none:=by
 induction W with
 | nil=>simp at h
 | cons x r a=>
  simp only[Qp,look];split
  ·rfl
  ·rename_i b;rcases yw.1 h with rfl | h
   ·simp at b
   ·exact a h
theorem Vq (b:List (Nat×Sl D))(t:Nat)(d:Sl D):∀(a:List (Nat×Sl D)),look d (a++b) t=match OX a t with
  | some y=>y
  | none=>look d b t
 | []=>rfl
 | (k,v)::r=>by
  simp only[Qbn,look,OX];split
  ·rfl
  ·exact Vq b t d r
theorem Uk (b:List (Nat×Option (Bk D)))(l:Nat):∀(a:List (Nat×Bk D)),look none ((a.map fun q=>(q.1,some q.2))++b) l=match jM a l with
  | some d=>some d
  | none=>look none b l
 | []=>rfl
 | (k,v)::r=>by
  simp only[Qp,Qbn,look,jM];by_cases h:k=l
  ·subst h;simp
  ·have c:¬(l.beq k=true):=fun e=>h (Qa e).symm
   have f:¬(k.beq l=true):=fun e=>h (Qa e)
   rw[uU c,uU f];exact Uk b l r
theorem ni {W:List Nat}:∀{a:List It} {cs:List (List (Lf D))} {b:Nat},slotsIn W a=true->∀t y,(t,y)∈(dK a cs b).1->t∈W
 | [],cs,b,_,t,y,h=>by simp[dK]at h
 | i::a,[],b,_,t,y,h=>by cases i<;>simp[dK]at h
 | .slot f g own::a,c::cs,b,hw,t,y,h=>by
  simp only[slotsIn,iZ]at hw;simp only[dK]at h;rcases yw.1 h with h | h
  ·injection h with d _
   rw[d];exact fC.1 hw.1
  ·exact ni hw.2 t y h
 | .cells l own::a,c::cs,b,hw,t,y,h=>by
  simp only[dK]at h;exact ni qbp t y h
 | .row l e::a,c::cs,b,hw,t,y,h=>by
  simp only[dK]at h;exact ni qbp t y h
 | .iter l::a,c::cs,b,hw,t,y,h=>by
  simp only[dK]at h;exact ni qbp t y h
 | .tcs l f own::a,c::cs,b,hw,t,y,h=>by
  simp only[dK]at h;exact ni qbp t y h
 | .ada l::a,c::cs,b,hw,t,y,h=>by
  simp only[dK]at h;exact ni qbp t y h
theorem absSt_slots {a:List It}{W:List Nat}{s b:St D}{cs:List (List (Lf D))}(h:YI a W s b=some cs):slotsIn W a=true:=by
 unfold YI at h
 grind
theorem head_ok (hS:ShOk S){b:List It}{W:List Nat}{s f:St D}{cs d:List (List (Lf D))}{a:Act}(P:Tidy g0 s)(h:HoldsSt S w0 g0 N n f a w)(m:∃o,f.blks=o++s.blks)(hfr:∀t,t∉W->f.slot t=s.slot t)
  (j:YI b W s f=some cs) (i:aij S cs d):HoldsSt S w0 g0 N n (headSt b W s d) a w:=by
 obtain⟨g,A,hs,hn,V,hm⟩:=h;unfold YI at j;split at j
 ·cases j
 ·rename_i cs0 E J;split at j
  ·rename_i X;injection j with j
   subst j;simp only[iZ]at X;obtain⟨⟨⟨⟨B,Q⟩,z⟩,U⟩,c5⟩:=X;have B:=Nl B;have Q:∀p∈E,(s.next<=p.1\/p.1∈qE s b)/\p.1∉b.flatMap It.ids:=fun p A=>by
    have:=Qb.1 Q p A;simp only[iZ,Qbi,Qbf]at this;refine⟨?_,KL this.2⟩;rcases this.1 with q | q
    ·simp_all
    ·exact .inr (fC.1 q)
   have z:∀l∈b.flatMap It.ids,l < s.next:=fun l i=>by
    have:=Qb.1 z l i;simp_all
   have U:∀k∈Rt s f,s.next<=k\/k∈b.flatMap It.ids\/k∈qE s b:=fun k M=>by
    have:=Qb.1 U k M;simp only[Qbi]at this;rcases this with(q | q) | q
    ·simp_all
    ·exact .inr (.inl (fC.1 q))
    ·exact .inr (.inr (fC.1 q))
   obtain⟨o,m⟩:=m;have aa:Rt s f=o.map (·.1):=by
    unfold Rt;simp_all
   have H:∀l,l < s.next->l∉qE s b->l∉E.map (·.1):=fun l h1 h2 Y=>by
    grind
   let x:Nat->Sl D:=fun t=>if t∈W then .one (.lf .any)else s.slot t
   let y:Nat->Option (Bk D):=fun l=>if l∈qE s b++b.flatMap It.ids then none else s.blk l
   have T:∀t,x t= .one (.lf .any)\/(f.slot t=x t/\∀l∈(x t).refs,l < s.next):=fun t=>by
    grind [Tidy.slots]
   have K:∀l u,y l=some u->l < s.next/\f.blk l=some u/\(∀r∈u.refs,r < s.next)/\l∉E.map (·.1):=fun l u C=>by
    by_cases c:l∈qE s b++b.flatMap It.ids
    ·grind
    ·have e:y l=s.blk l:=uU c;rw[e]at C;simp only[vO,not_or]at c;obtain⟨O,q2⟩:=P.blks l u C;refine⟨O,?_,q2,H l O c.1⟩;have F:l∉o.map (·.1):=fun M=>by
      grind
     show look none f.blks l=some u
     rw[m,qJ,uU F];exact C
   obtain⟨g',Z,R,I⟩:=adn (slot:=f.slot) (val:=fun t=>a.tmps.getD t undef) (nx:=s.next) hS A hs J i (Prod.eta _).symm B
    (fun l i=>⟨z l i,fun Y=>by
     grind⟩) T K
   have L:(headSt b W s d).blk=rF (dK b d s.next).2.1 y:=by
    funext l;show look none ((dK b d s.next).2.1.map (fun q=>(q.1,some q.2))++_) l=_
    rw[Uk];unfold rF;split
    ·grind
    ·rename_i G;rw[G];dsimp only;rw[qJ,Qc5];have:(fun p:Nat×Option (Bk D)=>p.1)∘(fun k:Nat=>(k,(none:Option (Bk D))))=id:=rfl;rw[this,Qd8];by_cases c:l∈qE s b++b.flatMap It.ids
     ·rw[vJ c,an1 c];grind
     ·rw[uU c];exact(uU c).symm
   have e2:(headSt b W s d).slot=UX (dK b d s.next).1 x:=by
    funext t;show look _ ((dK b d s.next).1++_) t=_
    rw[Vq];unfold UX;split
    ·grind
    ·rename_i hy;rw[hy];dsimp only;rw[qJ,Qc5];have:(fun p:Nat×Sl D=>p.1)∘(fun t:Nat=>(t,(.one (.lf .any):Sl D)))=id:=rfl;rw[this,Qd8];by_cases c:t∈W
     ·rw[vJ c,aq_ c];grind
     ·rw[uU c];exact(uU c).symm
   refine⟨g',?_,?_,hn,V,fun l v i=>(I l (P.eG l v i)).trans (hm l v i)⟩
   ·rw[L];exact Z
   ·rw[L,e2];exact R
  ·cases j
theorem head_pre {b:List It}{W:List Nat}{s:St D}{cs:List (List (Lf D))}:∃a,(headSt b W s cs).blks=a++s.blks:=⟨_,(Yt _ _ _).symm⟩
theorem head_slot {a:List It}{W:List Nat}{s:St D}{cs:List (List (Lf D))}(b:slotsIn W a=true){t:Nat}(h:t∉W):(headSt a W s cs).slot t=s.slot t:=by
 show look _ ((dK a cs s.next).1++_) t=look _ s.tmps t
 grind [ni,qJ]
theorem Xb {m:Type}{b:Rep D m}(J:aal b){id:Nat}{c:Array Oper}{d:Bool}{s:m}(O:b.ok s){p:Type 1}{A:Alg p}{den:p->Prop}(G:Ha A den){K:m->p}{a:Act}{Q:Exit->Act->World->Prop}(y:P.follows .mixedOrders=true)(k:∀t B,T t=some B->TyOk P t B)(l:∀f x,Γ f=some x->CtOk P S f x)(r:ShOk S)
  (o:(!d || yY c)=true) (M:den (mi b A T S Γ c n d c.toList 0 [] s K)) (h:HoldsSt S w0 g0 N n (b.st s) a w)
  (R:∀e z E,HoldsSt S w0 g0 N n (b.st e) z E->(∃v,(b.st e).blks=v++(b.st s).blks)->(∀t,t∉c.toList.filterMap (·.dst)->(b.st e).slot t=(b.st s).slot t)->b.ok e/\den (K e)->Q .normal z E):(Code.region id c d).wp P Q a w:=by
 obtain⟨q,e,g,H,L,V,I,F,U,X⟩:=YJ G J _ _ _ _ O M;simp only[Nat.mul_zero,XE]at g;have i:c.toList.length=c.size:=by simp
 have u:∀t,t∉c.toList.filterMap (·.dst)->(b.st e).slot t=(b.st s).slot t:=fun t Y=>by
  grind
 have C:∀a w,Holds S w0 g0 N n (C9 (b.st s).slot q) (GX (b.st s).blk q) (· < (b.st s).next+64*c.size) a w->Q .normal a w:=by
  intro a w W;refine R e a w ?_ U u I;unfold HoldsSt;rw[L,V,i,Bc];exact W.alike H
 cases d with
 | false=>
  refine wp_region ?_;rw[List.range_eq_range',<-i];exact aez k l r c.toList q 0 (b.st s).next (b.st s).slot (b.st s).blk a w (fun j=>by simp) g h aj
 | true=>
  have o:yY c=true:=by simpa using o
  exact aeg y k l r o g (ail (F rfl)) h C
theorem pre_trans {a b c:List (Nat×Option (Bk D))}(d:∃p,b=p++a)(e:∃p,c=p++b):∃p,c=p++a:=by
 grind
theorem decX_spec {a:Shp D}{W:List Nat}{s b:St D}{x:a.X}(c:ShpOk S a)(h:decX a W s b=some x):∃cs,YI (a.its s.slot) W s b=some cs/\aij S cs (a.enc x):=by
 unfold decX at h
 grind [ShpOk.ok]
theorem inr_inj {X R:Type}:∀a b:R,(Sum.inr a:X⊕R)= .inr b->a=b:=fun a b h=>by injection h
theorem ahD {s:St D}{a:Act}(h:HoldsSt S w0 g0 N n s a w){o:Oper}{p:Prop}(b:asf S s o=some p):p:=by
 obtain⟨g,k,m,_⟩:=h;unfold asf at b;split at b
 ·split at b
  ·rename_i t _ _;have c:=m t;split at b
   ·rename_i d j;injection b with b
    subst b;rw[j]at c;exact bW.aks c
   ·rename_i x i;injection b with b
    subst b;rw[i]at c;exact c.2
   ·rename_i l i;split at b
    ·rename_i e d q;injection b with b
     subst b;obtain⟨v,_,f⟩:=k.bY l _ q;exact f.1.2.1
    ·cases b
   ·cases b
  ·cases b
 ·cases b
theorem Nq {s:St D}{a:Act}(h:HoldsSt S w0 g0 N n s a w){R:Type}{k:Tr D R}{d e:R}:∀(c:List Oper),(aeN S s k c).run d=some e->k.run d=some e
 | [],b=>b
 | o::r,b=>by
  unfold aeN at b;split at b
  ·rename_i p _ f;simp only[Tr.run]at b;rw[yJ (ahD h f)]at b;exact Nq h r b
  ·exact Nq h r b
theorem ex_small {i:Nat}(h:Nat.blt i 1000000=true):exOf (.exit i)= .exit i:=by simp only[exOf,h]
theorem ex_goto {l:Nat}:exOf (.exit (1000000+l))= .goto l:=by
 have:Nat.blt (1000000+l) 1000000=false:=by
  cases e:Nat.blt (1000000+l) 1000000 with
  | true=>rw[Qcp]at e;omega
  | false=>rfl
 simp only[exOf,this,Nat.add_sub_cancel_left]
theorem then_ex {next:Act->World->Prop}{Q:Exit->Act->World->Prop}{i:Nat}{a:Act}{w:World}(h:Q (exOf (.exit i)) a w):Exit.then next Q (exOf (.exit i)) a w:=by
 revert h;unfold exOf;dsimp only;split<;>exact fun h=>h
theorem adi {id:Nat}{Q:Exit->Act->World->Prop}{i:Nat}{a:Act}{w:World}(b:i≠id)(h:Q (exOf (.exit i)) a w):Exit.inBlock id Q (exOf (.exit i)) a w:=by
 revert h;unfold exOf;dsimp only;split
 ·exact fun h=>by simp only[Exit.inBlock];grind
 ·exact fun h=>h
theorem ev_sound {J:Nat->Option (Shp D)}(hJ:∀i L,J i=some L->ShpOk S L)(hmx:P.follows .mixedOrders=true)(hTy:∀t ty,T t=some ty->TyOk P t ty)(hΓ:∀f ct,Γ f=some ct->CtOk P S f ct)(hS:ShOk S):
  ∀(c:Code) (R:Type) (s:St D) (K:Ex->St D->Tr D R) (I G:R) (Q:Exit->Act->World->Prop) (a:Act) (w:World),drawsOk c=true->(evC T S Γ n J c R s K).run I=some G->HoldsSt S w0 g0 N n s a w->
   (∀e o B F,HoldsSt S w0 g0 N n o B F->(∃M,o.blks=M++s.blks)->(∀t,t∉writes c->o.slot t=s.slot t)->(K e o).run I=some G->Q (exOf e) B F)->c.wp P Q a w:=by
 intro c;induction c with
 | skip=>intro R s K I G Q a w _ u h z;exact wp_skip (z .normal s a w h ⟨[],rfl⟩ (fun _ _=>rfl) u)
 | region id ops draw=>
  intro R s K I G Q a w H u h z;refine Xb auO trivial (den:=fun t:Tr D R=>t.run I=some G) (ar4 I G) hmx hTy hΓ hS H u h fun o B F C E A d=> ?_;have d:=Nq C _ d.2;split at d
  ·exact z .normal o B F C E A d
  ·rename_i L hsh;split at d
   ·rename_i x U;obtain⟨cs,O,q2⟩:=decX_spec (hJ _ L hsh) U;exact z .normal _ B F (head_ok hS (tidy_of C) C ⟨[],rfl⟩ (fun _ _=>rfl) O q2) (pre_trans E head_pre) (fun t v=>(head_slot (absSt_slots O) jQ).trans (A t v)) d
   ·cases d
 | seq x y ihx ihy=>
  intro R s K I G Q a w H u h z;simp only[drawsOk,iZ]at H;simp only[evC]at u;have hw:∀{t:Nat},t∉writes (.seq x y)->t∉writes x/\t∉writes y:=fun{t} v=>by
   simp only[writes,vO,not_or]at v;exact v
  split at u
  ·refine wp_seq (ihx R s _ I G _ a w H.1 u h fun e o B F C E A d=> ?_);cases e with
   | normal=>exact ihy R o K I G Q B F H.2 d C fun e s2 a2 w2 k k1 k2 k3=>z e s2 a2 w2 k (pre_trans E k1) (fun t v=>(k2 t (hw v).2).trans (A t (hw v).1)) k3
   | exit i=>grind [then_ex]
   | ret=>exact z .ret o B F C E (fun t v=>A t (hw v).1) d
  ·rename_i L hsh;have hok:=hJ _ L hsh;have v:=tidy_of h;rcases VR u with⟨x0,hv1,hv2⟩ | hv1
   ·refine wp_seq (ihx _ s _ _ _ _ a w H.1 hv1 h fun e o B F C E A d=> ?_);cases e with
    | normal=>
     dsimp only at d;split at d
     ·rename_i x1 hx1;injection d with d
      injection d with d
      subst d;obtain⟨cs,O,q2⟩:=decX_spec hok hx1;refine ihy R _ K I G Q B F H.2 hv2 (head_ok hS v C E A O q2) fun e s2 a2 w2 k k1 k2 k3=>z e s2 a2 w2 k (pre_trans head_pre k1) (fun t v=>(k2 t (hw v).2).trans (head_slot (absSt_slots O) (hw v).1)) k3
     ·cases d
    | exit i=>
     obtain⟨r,q,_⟩:=Tr.run_map _ _ _ inr_inj _ _ d;cases q
    | ret=>
     obtain⟨r,q,_⟩:=Tr.run_map _ _ _ inr_inj _ _ d;cases q
   ·refine wp_seq (ihx _ s _ _ _ _ a w H.1 hv1 h fun e o B F C E A d=> ?_);cases e with
    | normal=>
     dsimp only at d;split at d
     ·injection d with d;cases d
     ·cases d
    | exit i=>
     obtain⟨r,q,W⟩:=Tr.run_map _ _ _ inr_inj _ _ d
     grind [then_ex]
    | ret=>
     obtain⟨r,q,W⟩:=Tr.run_map _ _ _ inr_inj _ _ d;injection q with q
     subst q;exact z .ret o B F C E (fun t v=>A t (hw v).1) W
 | cond c x y ihx ihy=>
  intro R s K I G Q a w H u h z;simp only[drawsOk,iZ]at H;simp only[evC]at u;have hh:=h;obtain⟨g,hp,hs,_⟩:=h;have Z:=mD hs c;have X:=fun u=>ihx R s K I G Q a w H.1 u hh fun e o B F C E A d=>z e o B F C E (fun t v=>A t (by simp only[writes,vO,not_or]at v;exact v.1)) d
  have Y:=fun u=>ihy R s K I G Q a w H.2 u hh fun e o B F C E A d=>z e o B F C E (fun t v=>A t (by simp only[writes,vO,not_or]at v;exact v.2)) d
  split at u
  ·rename_i b hb;rw[hb]at Z;cases b with
   | true=>exact wp_cond_true Z (X u)
   | false=>exact wp_cond_false Z (Y u)
  ·rename_i hb;rw[hb]at Z;exact wp_cond_true Z (X u)
  ·rename_i hb;rw[hb]at Z;exact wp_cond_false Z (Y u)
  ·rename_i p hb;rw[hb]at Z;obtain⟨b,hvb,hpb⟩:=Z;obtain⟨_,O,q2⟩:=ZX u;cases b with
   | true=>exact wp_cond_true hvb (X (O hpb))
   | false=>exact wp_cond_false hvb (Y (q2 hpb))
  ·cases u
 | scope b ih=>
  intro R s K I G Q a w H u h z;refine wp_scope_straight (ih R s (scopeK (.halt 9) K) I G _ a w H u h fun e o B F C E A d=> ?_);cases e with
  | normal=>exact z .normal o B F C E A d
  | exit j=>
   simp only[scopeK]at d;split at d
   ·rename_i hj;rw[ex_small hj];have:=z (.exit j) o B F C E A d;rwa [ex_small hj]at this
   ·cases d
  | ret=>exact z .ret o B F C E A d
 | goto l=>intro R s K I G Q a w _ u h z;exact wp_goto (ex_goto (l:=l)▸z (.exit (1000000+l)) s a w h ⟨[],rfl⟩ (fun _ _=>rfl) u)
 | label l=>intro R s K I G Q a w _ u h z;exact wp_label (z .normal s a w h ⟨[],rfl⟩ (fun _ _=>rfl) u)
 | block id b ih=>
  intro R s K I G Q a w H u h z;simp only[drawsOk]at H;refine wp_block (ih R s _ I G _ a w (Qd1.1 H).2 u h fun e o B F C E A d=> ?_);cases e with
  | normal=>exact z .normal o B F C E A d
  | exit j=>
   simp only at d;split at d
   ·rename_i hj;have hj:=Qa hj;subst hj;show Exit.inBlock _ Q (exOf (.exit _)) B F
    rw[ex_small (Qd1.1 H).1];simp only[Exit.inBlock,if_true];exact z .normal o B F C E A d
   ·rename_i hj;exact adi (by rintro rfl;simp at hj) (z (.exit j) o B F C E A d)
  | ret=>exact z .ret o B F C E A d
 | loop b ih=>
  intro R s K I G Q a w H u h z;simp only[evC]at u;split at u
  ·split at u
   ·cases u
   rename_i shu _;generalize d:(shu.its fun _=> .one (.lf .any)).length=k at u;refine wp_loop_ghost (fun m a w=>∃o,(Nat.rec (motive:=fun _=>St D->Tr D R) (fun s=> .halt (700000+rM b) s) (fun _ ih s=>evC T S Γ n J b R s fun e o=>
    match e with
    | .normal=>ih o
    | .exit i=>K (.exit i) o
    | .ret=>K .ret o) m o:Tr D R).run I=some G/\HoldsSt S w0 g0 N n o a w/\(∃M,o.blks=M++s.blks)/\∀t,t∉writes b->o.slot t=s.slot t) k ⟨s,u,h,⟨[],rfl⟩,fun _ _=>rfl⟩ ?_
   rintro m a w ⟨s1,W,hh,hp1,hs1⟩;cases m with
   | zero=>cases W
   | succ m=>
    refine ih _ _ _ _ _ _ a w H W hh fun e o B F C E A d=> ?_;cases e with
    | normal=>exact⟨m,by omega,o,d,C,pre_trans hp1 E,fun t v=>(A t v).trans (hs1 t v)⟩
    | exit i=>exact then_ex (z (.exit i) o B F C (pre_trans hp1 E) (fun t v=>(A t v).trans (hs1 t v)) d)
    | ret=>exact z .ret o B F C (pre_trans hp1 E) (fun t v=>(A t v).trans (hs1 t v)) d
  rename_i L hsh;have hok:=hJ _ L hsh;have v:=tidy_of h;split at u
  ·cases u
  rename_i x0 hx0;obtain⟨cs0,O,q2⟩:=decX_spec hok hx0;have hsl:=absSt_slots O;obtain⟨m0,hm0⟩:=loopU_spec u;refine wp_loop_ghost (fun m a w=>∃x,loopM _ m x=some G/\HoldsSt S w0 g0 N n (headSt (L.its s.slot) (writes b) s (L.enc x)) a w) m0 ⟨x0,hm0,head_ok hS v h ⟨[],rfl⟩ (fun _ _=>rfl) O q2⟩ ?_;rintro m a w ⟨x,U,hh⟩;cases m with
  | zero=>simp[loopM]at U
  | succ m=>
   have back:∀o:St D,(∃M,o.blks=M++(headSt (L.its s.slot) (writes b) s (L.enc x)).blks)->∃M,o.blks=M++s.blks:=fun o E=>pre_trans head_pre E
   have aa:∀o:St D,(∀t,t∉writes b->o.slot t=(headSt (L.its s.slot) (writes b) s (L.enc x)).slot t)->∀t,t∉writes b->o.slot t=s.slot t:=fun o A t v=>(A t v).trans (head_slot hsl v)
   unfold loopM at U;split at U
   ·cases U
   ·rename_i x' V;refine ih _ _ _ _ _ _ a w H V hh fun e o B F C E A d=> ?_;cases e with
    | normal=>
     dsimp only at d;split at d
     ·rename_i x1 hx1;injection d with d
      injection d with d
      subst d;obtain⟨cs,k1,k2⟩:=decX_spec hok hx1;exact⟨m,by omega,_,U,head_ok hS v C (back o E) (aa o A) k1 k2⟩
     ·cases d
    | exit i=>
     obtain⟨r,q,_⟩:=Tr.run_map _ _ _ inr_inj _ _ d;cases q
    | ret=>
     obtain⟨r,q,_⟩:=Tr.run_map _ _ _ inr_inj _ _ d;cases q
   ·rename_i r1 V;injection U with U
    subst U;refine ih _ _ _ _ _ _ a w H V hh fun e o B F C E A d=> ?_;cases e with
    | normal=>
     dsimp only at d;split at d
     ·injection d with d;cases d
     ·cases d
    | exit i=>
     obtain⟨r,q,W⟩:=Tr.run_map _ _ _ inr_inj _ _ d;injection q with q
     subst q;exact then_ex (z (.exit i) o B F C (back o E) (aa o A) W)
    | ret=>
     obtain⟨r,q,W⟩:=Tr.run_map _ _ _ inr_inj _ _ d;injection q with q
     subst q;exact z .ret o B F C (back o E) (aa o A) W
 | exit id=>intro R s K I G Q a w H u h z;exact wp_exit (ex_small H▸z (.exit id) s a w h ⟨[],rfl⟩ (fun _ _=>rfl) u)
 | ret=>intro R s K I G Q a w _ u h z;exact wp_ret (z .ret s a w h ⟨[],rfl⟩ (fun _ _=>rfl) u)
 | _=>intro R s K I G Q a w _ u;cases u
end
end Go.Vc

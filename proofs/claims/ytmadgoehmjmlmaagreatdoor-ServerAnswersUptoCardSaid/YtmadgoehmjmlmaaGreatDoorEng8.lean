/- Own engine: Vdm. -/
import Derived.Test.YtmadgoehmjmlmaaGreatDoorEng7
import Derived.Scope
set_option linter.unusedVariables false
set_option linter.unusedSimpArgs false
namespace Go.Vc
open Go.RowKit
section
variable {R R' X:Type}
open Classical in
noncomputable def need (p:Prop)(k:Option R):Option R:=if p then k else none
open Classical in
noncomputable def both (p:Bool->Prop)(t e:Option R):Option R:=
 if h:(∃b,p b)/\∃r,(p true->t=some r)/\(p false->e=some r)then some (Classical.choose h.2)else none
open Classical in
noncomputable def asm (p:Prop)(e:R)(k:Option R):Option R:=if p then k else some e
def pI (step:X->Option (X⊕R)):Nat->X->Option R
 | 0,_=>none
 | n+1,x=>match step x with
  | none=>none
  | some (.inl x')=>pI step n x'
  | some (.inr r)=>some r
open Classical in
noncomputable def qZ (step:X->Option (X⊕R))(x:X):Option R:=
 if h:∃r n,pI step n x=some r then some (Classical.choose h)else none
def akv (a:Option (X⊕R))(k:X->Option R):Option R:=
 match a with
 | none=>none
 | some (.inl x)=>k x
 | some (.inr r)=>some r
theorem zy {p:Prop}{e:R}{k:Option R}(h:p):asm p e k=k:=by unfold asm;exact mi h
theorem BH {p:Prop}{e:R}{k:Option R}(h:¬p):asm p e k=some e:=by unfold asm;exact lL h
theorem yx {p:Prop}{k:Option R}(h:p):need p k=k:=by unfold need;exact mi h
theorem Zx {p:Prop}{k:Option R}{r:R}(h:need p k=some r):p/\k=some r:=by
 unfold need at h;split at h
 ·rename_i hp;exact⟨hp,h⟩
 ·cases h
@[simp] theorem aFQ {k:Option R}:need True k=k:=yx trivial
theorem Yx {p:Bool->Prop}{t e:Option R}{r:R}(h:both p t e=some r):(∃b,p b)/\(p true->t=some r)/\(p false->e=some r):=by
 unfold both at h;split at h
 ·rename_i hh;injection h with h
  subst h;exact⟨hh.1,Qce hh.2⟩
 ·cases h
theorem abt {p:Bool->Prop}{t e:Option R}{r:R}(h:∃b,p b)(h1:p true->t=some r)(h2:p false->e=some r):both p t e=some r:=by
 unfold both;rw[dif_pos ⟨h,r,h1,h2⟩];obtain⟨q1,q2⟩:=Qce (⟨r,h1,h2⟩:∃r,(p true->t=some r)/\(p false->e=some r));obtain⟨b,hb⟩:=h;cases b with
 | true=>rw[<-q1 hb];exact h1 hb
 | false=>rw[<-q2 hb];exact h2 hb
theorem IK {step:X->Option (X⊕R)}:∀{n m:Nat} {x:X} {r:R},pI step n x=some r->n<=m->pI step m x=some r
 | 0,_,_,_,h,_=>by simp[pI]at h
 | n+1,0,_,_,_,h=>by omega
 | n+1,m+1,x,r,h,hm=>by
  unfold pI at h⊢;split at h
  ·cases h
  ·exact IK h au
  ·exact h
theorem KO {step:X->Option (X⊕R)}{n:Nat}{x:X}{r:R}(h:pI step n x=some r):qZ step x=some r:=by
 unfold qZ;have hh:∃r n,pI step n x=some r:=⟨r,n,h⟩;rw[dif_pos hh];obtain⟨m,hm⟩:=Qce hh;have h1:=IK h (Nat.le_max_left n m);have h2:=IK hm (Nat.le_max_right n m);rw[h1]at h2;exact h2.symm
theorem xQ {step:X->Option (X⊕R)}{x:X}{r:R}(h:qZ step x=some r):∃n,pI step n x=some r:=by
 unfold qZ at h;split at h
 ·rename_i hh;injection h with h
  subst h;exact Qce hh
 ·cases h
theorem yf (step:X->Option (X⊕R))(x:X):qZ step x=match step x with
  | none=>none
  | some (.inl x')=>qZ step x'
  | some (.inr r)=>some r:=by
 cases hs:step x with
 | none=>
  cases hu:qZ step x with
  | none=>rfl
  | some r=>
   obtain⟨n,hn⟩:=xQ hu;cases n with
   | zero=>simp[pI]at hn
   | succ n=>simp[pI,hs]at hn
 | some y=>
  cases y with
  | inr r=>exact KO (n:=1) (by simp[pI,hs])
  | inl x'=>
   dsimp only;cases hu:qZ step x' with
   | some r=>
    obtain⟨n,hn⟩:=xQ hu;exact KO (n:=n+1) (by simp[pI,hs,hn])
   | none=>
    cases hv:qZ step x with
    | none=>rfl
    | some r=>
     obtain⟨n,hn⟩:=xQ hv;cases n with
     | zero=>simp[pI]at hn
     | succ n=>
      simp only[pI,hs]at hn;rw[KO hn]at hu;cases hu
theorem Uw {a:Option (X⊕R)}{k:X->Option R}{r:R}(h:akv a k=some r):(∃x,a=some (.inl x)/\k x=some r)\/a=some (.inr r):=by
 unfold akv at h;split at h
 ·cases h
 ·exact .inl ⟨_,rfl,h⟩
 ·injection h with h;subst h;exact .inr rfl
end
inductive Tr (D:Type):Type->Type 1 where
 | ret {R:Type} (r:R):Tr D R
 | stuck {R:Type} (n:Nat):Tr D R
 | halt {R:Type} (n:Nat) (s:St D):Tr D R
 | ob {R:Type} (p:DP) (k:Tr D R):Tr D R
 | as {R:Type} (p:Prop) (k:Tr D R):Tr D R
 | br {R:Type} (b:Bool) (t e:Tr D R):Tr D R
 | unk {R:Type} (p:Bool->Prop) (t e:Tr D R):Tr D R
 | loop {R:Type} (X:Type) (x:X) (body:X->Tr D (X⊕R)):Tr D R
 | cut {R:Type} (X:Type) (a:Tr D (X⊕R)) (k:X->Tr D R):Tr D R
section
variable {D:Type}
noncomputable def Tr.run:{R:Type}->Tr D R->R->Option R
 | _, .ret r,_=>some r
 | _, .stuck _,_=>none
 | _, .halt _ _,_=>none
 | _, .ob p k,r=>need p.p (k.run r)
 | _, .as p k,r=>asm p r (k.run r)
 | _, .br b t e,r=>cond b (t.run r) (e.run r)
 | _, .unk p t e,r=>both p (t.run r) (e.run r)
 | _, .loop X x body,r=>qZ (fun y=>(body y).run (.inr r)) x
 | _, .cut X a k,r=>akv (a.run (.inr r)) fun x=>(k x).run r
def Tr.map:{R:Type}->(R':Type)->(R->R')->Tr D R->Tr D R'
 | _,_,f, .ret r=> .ret (f r)
 | _,_,_, .stuck n=> .stuck n
 | _,_,_, .halt n s=> .halt n s
 | _,R',f, .ob p k=> .ob p (k.map R' f)
 | _,R',f, .as p k=> .as p (k.map R' f)
 | _,R',f, .br b t e=> .br b (t.map R' f) (e.map R' f)
 | _,R',f, .unk p t e=> .unk p (t.map R' f) (e.map R' f)
 | _,R',f, .loop X x body=> .loop X x fun y=>(body y).map (X⊕R') (Sum.map id f)
 | _,R',f, .cut X a k=> .cut X (a.map (X⊕R') (Sum.map id f)) fun x=>(k x).map R' f
theorem ajX {X R R':Type}{f:R->R'}(hf:∀a b,f a=f b->a=b):∀a b:X⊕R,Sum.map id f a=Sum.map id f b->a=b
 | .inl a, .inl b,h=>by simpa using h
 | .inr a, .inr b,h=>by simp at h;rw[hf a b h]
 | .inl a, .inr b,h=>by simp at h
 | .inr a, .inl b,h=>by simp at h
theorem Tr.run_map:{R:Type}->(t:Tr D R)->(R':Type)->(f:R->R')->(∀a b,f a=f b->a=b)->(e0:R)->(r':R')->(t.map R' f).run (f e0)=some r'->∃r,r'=f r/\t.run e0=some r
 | _, .ret r,R',f,hf,e0,r',h=>by injection h with h;exact⟨r,h.symm,rfl⟩
 | _, .stuck n,R',f,hf,e0,r',h=>by cases h
 | _, .halt n s,R',f,hf,e0,r',h=>by cases h
 | _, .ob p k,R',f,hf,e0,r',h=>by
  obtain⟨h1,h2⟩:=Zx h;obtain⟨r,e,hr⟩:=Tr.run_map k R' f hf e0 r' h2;exact⟨r,e,by simp only[Tr.run];rw[yx h1];exact hr⟩
 | _, .as p k,R',f,hf,e0,r',h=>by
  by_cases hp:p
  ·have h:(k.map R' f).run (f e0)=some r':=by simp only[Tr.map,Tr.run]at h;rwa [zy hp]at h
   obtain⟨r,e,hr⟩:=Tr.run_map k R' f hf e0 r' h;exact⟨r,e,by simp only[Tr.run];rw[zy hp];exact hr⟩
  ·simp only[Tr.map,Tr.run]at h;rw[BH hp]at h;injection h with h
   exact⟨e0,h.symm,by simp only[Tr.run];rw[BH hp]⟩
 | _, .br b t e,R',f,hf,e0,r',h=>by
  cases b with
  | true=>exact Tr.run_map t R' f hf e0 r' h
  | false=>exact Tr.run_map e R' f hf e0 r' h
 | _, .unk p t e,R',f,hf,e0,r',h=>by
  obtain⟨⟨b,hb⟩,h1,h2⟩:=Yx h;cases b with
  | true=>
   obtain⟨r,q1,q2⟩:=Tr.run_map t R' f hf e0 r' (h1 hb);refine⟨r,q1,abt ⟨true,hb⟩ (fun _=>q2) fun hb'=> ?_⟩;obtain⟨r2,q3,q4⟩:=Tr.run_map e R' f hf e0 r' (h2 hb');rw[hf r r2 (q1.symm.trans q3)];exact q4
  | false=>
   obtain⟨r,q1,q2⟩:=Tr.run_map e R' f hf e0 r' (h2 hb);refine⟨r,q1,abt ⟨false,hb⟩ (fun hb'=> ?_) fun _=>q2⟩;obtain⟨r2,q3,q4⟩:=Tr.run_map t R' f hf e0 r' (h1 hb');rw[hf r r2 (q1.symm.trans q3)];exact q4
 | _, .loop X x body,R',f,hf,e0,r',h=>by
  obtain⟨n,hn⟩:=xQ h;have ih:=fun y=>Tr.run_map (body y) (X⊕R') (Sum.map id f) (ajX hf) (.inr e0)
  have key:∀(n:Nat) (x:X),pI (fun y=>((body y).map (X⊕R') (Sum.map id f)).run (.inr (f e0))) n x=some r'->∃r,r'=f r/\pI (fun y=>(body y).run (.inr e0)) n x=some r:=by
   intro n;induction n with
   | zero=>intro x h;simp[pI]at h
   | succ n ihn=>
    intro x h;unfold pI at h;split at h
    ·cases h
    ·rename_i x' hx;obtain⟨z,e,hz⟩:=ih x _ hx;cases z with
     | inr z=>simp at e
     | inl z=>
      simp at e;subst e;obtain⟨r,q1,q2⟩:=ihn x' h;exact⟨r,q1,by simp only[pI];rw[hz];exact q2⟩
    ·rename_i r2 hx;injection h with h
     subst h;obtain⟨z,e,hz⟩:=ih x _ hx;cases z with
     | inl z=>simp at e
     | inr z=>
      simp at e;exact⟨z,e,by simp only[pI];rw[hz]⟩
  obtain⟨r,q1,q2⟩:=key n x hn;exact⟨r,q1,KO q2⟩
 | _, .cut X a k,R',f,hf,e0,r',h=>by
  have iha:=Tr.run_map a (X⊕R') (Sum.map id f) (ajX hf) (.inr e0);have ihk:=fun x=>Tr.run_map (k x) R' f hf e0
  rcases Uw h with⟨x,h1,h2⟩ | h1
  ·obtain⟨z,e,hz⟩:=iha _ h1;cases z with
   | inr z=>simp at e
   | inl z=>
    simp at e;subst e;obtain⟨r,q1,q2⟩:=ihk x r' h2;exact⟨r,q1,by simp only[Tr.run];rw[hz];exact q2⟩
  ·obtain⟨z,e,hz⟩:=iha _ h1;cases z with
   | inl z=>simp at e
   | inr z=>
    simp at e;exact⟨z,e,by simp only[Tr.run];rw[hz];rfl⟩
def aBr (D R:Type):Alg (Tr D R):=⟨.stuck 1, .ob, .br⟩
theorem as6 {R:Type}(e0 r0:R):WN (aBr D R) fun t=>t.run e0=some r0:=by
 refine⟨fun h=> ?_,fun{p k} h=>Zx h,fun{b t e} h=> ?_⟩
 ·cases h
 ·cases b with
  | true=>exact⟨fun _=>h,fun e=>by cases e⟩
  | false=>exact⟨(fun e=>by cases e),fun _=>h⟩
structure Ho (D:Type):Type 1 where
 X:Type
 its:(Nat->Sl D)->List It
 enc:X->List (List (Lf D))
 dec:List (List (Lf D))->Option X
def pid:Sl D->Nat
 | .one (.lf (.ptr l _))=>l
 | .one (.lf (.opt l _ _ _))=>l
 | .one (.lf (.own l))=>l
 | _=>1000000000
class ru (S:Sh D) (sh:Ho D):Prop where
 ok:∀cs x,sh.dec cs=some x->aij S cs (sh.enc x)
inductive Ex where
 | normal
 | exit (id:Nat)
 | ret
def aJN:Ex->Exit
 | .normal=> .normal
 | .exit id=> .exit id
 | .ret=> .ret
def uh:Code->Nat
 | .region id _ _=>id
 | .seq a _=>uh a
 | .cond _ a _=>uh a
 | .block _ b=>uh b
 | .loop b=>uh b
 | .scope b=>uh b
 | _=>0
def rE:Code->Bool
 | .region _ ops draw=> !draw || yP ops
 | .seq a b=>rE a && rE b
 | .cond _ a b=>rE a && rE b
 | .block _ b=>rE b
 | .loop b=>rE b
 | .scope b=>rE b
 | _=>true
def writes:Code->List Nat
 | .region _ ops _=>ops.toList.filterMap (·.dst)
 | .seq a b=>writes a++writes b
 | .cond _ a b=>writes a++writes b
 | .block _ b=>writes b
 | .loop b=>writes b
 | .scope b=>writes b
 | _=>[]
def rM (s:St D):List It->List Nat
 | []=>[]
 | .slot t _ _::is=>(s.slot t).owns++rM s is
 | .cells l _::is=>(match s.blk l with
  | some (.cells xs)=>xs.flatMap Lf.owns
  | _=>[])++rM s is
 | .row _ _::is=>rM s is
 | .iter _::is=>rM s is
 | .acW _::is=>rM s is
 | .tcs l _ _::is=>(match s.blk l with
  | some (.tc _ xs)=>xs.flatMap Lf.owns
  | _=>[])++rM s is
def Ry (s s':St D):List Nat:=(s'.blks.take (s'.blks.length - s.blks.length)).map (·.1)
def Vz:List Nat->Bool
 | []=>true
 | x::r=> !rO x r && Vz r
def zk (W:List Nat):List It->Bool
 | []=>true
 | .slot t _ _::is=>rO t W && zk W is
 | _::is=>zk W is
def YU (is:List It)(W:List Nat)(s s':St D):Option (List (List (Lf D))):=
 match EX s'.slot s'.blk is with
 | none=>none
 | some (cs,mv)=>
  if Vz (mv.map (·.1)) && (mv.all fun p=>(Nat.ble s.next p.1 || rO p.1 (rM s is)) && !rO p.1 (is.flatMap It.ids)) && ((is.flatMap It.ids).all fun l=>Nat.blt l s.next) &&
   ((Ry s s').all fun k=>Nat.ble s.next k || rO k (is.flatMap It.ids) || rO k (rM s is)) && zk W is then some cs else none
def xy (is:List It)(W:List Nat)(s:St D)(cs:List (List (Lf D))):St D:=
 let p:=fC is cs s.next
 ⟨p.1++((W.map fun t=>(t, .one (.lf .any)))++s.tmps),(p.2.1.map fun q=>(q.1,some q.2))++(((rM s is++is.flatMap It.ids).map fun k=>(k,none))++s.blks),p.2.2⟩
def aor (sh:Ho D)(W:List Nat)(s s':St D):Option sh.X:=
 match YU (sh.its s.slot) W s s' with
 | some cs=>sh.dec cs
 | none=>none
def atg (S:Sh D)(s:St D)(o:Oper):Option Prop:=
 match o.op with
 | .call c=>(match c.callee,c.args.toList with
  | .builtin .len,[.tmp t]=>(match s.slot t with
   | .one (.lf (.dat d))=>some (S.len d<=9223372036854775807)
   | .one (.lf (.str x))=>some (x.length<=9223372036854775807)
   | .one (.lf (.own l))=>(match s.blk l with
    | some (.row _ d)=>some (S.len d<=9223372036854775807)
    | _=>none)
   | _=>none)
  | _,_=>none)
 | _=>none
def aJz (d:Option Nat)(o:Oper):Bool:=
 match d,o.op with
 | some d, .binOp _ _ (.tmp x) (.const _) _=>Nat.beq x d
 | some d, .binOp _ _ (.const _) (.tmp x) _=>Nat.beq x d
 | _,_=>false
def ad6 (S:Sh D)(s:St D){R:Type}(k:Tr D R):List Oper->Tr D R
 | []=>k
 | o::r=>(match r.any (aJz o.dst),atg S s o with
  | false,some p=> .as p (ad6 S s k r)
  | _,_=>ad6 S s k r)
def Ug (T:TypeId->Option Ty)(S:Sh D)(Γ:FuncId->Option (Ct D))(n:Nat)(J:Nat->Option (Ho D)):Code->(R:Type)->St D->(Ex->St D->Tr D R)->Tr D R
 | .skip,R,s,K=>K .normal s
 | .region id ops draw,R,s,K=>oK (aBr D R) T S Γ ops n draw ops.toList 0 [] s fun s'=>ad6 S s' (match J (800000+id)with
  | none=>K .normal s'
  | some sh=>(match aor sh [] s' s' with
   | some x=>K .normal (xy (sh.its s'.slot) [] s' (sh.enc x))
   | none=> .halt (800000+id) s')) ops.toList
 | .seq a b,R,s,K=>
  match J (100000+uh b)with
  | none=>Ug T S Γ n J a R s fun e s=>
   match e with
   | .normal=>Ug T S Γ n J b R s K
   | .exit i=>K (.exit i) s
   | .ret=>K .ret s
  | some sh=> .cut sh.X (Ug T S Γ n J a (sh.X⊕R) s fun e s'=>
   match e with
   | .normal=>(match aor sh (writes a) s s' with
    | some x=> .ret (.inl x)
    | none=> .halt (200000+uh b) s')
   | .exit i=>(K (.exit i) s').map (sh.X⊕R) .inr
   | .ret=>(K .ret s').map (sh.X⊕R) .inr) fun x=>Ug T S Γ n J b R (xy (sh.its s.slot) (writes a) s (sh.enc x)) K
 | .cond c x y,R,s,K=>
  match aG s.slot c with
  | .one (.lf (.bool b))=> .br b (Ug T S Γ n J x R s K) (Ug T S Γ n J y R s K)
  | .one (.lf (.val (.bool true)))=>Ug T S Γ n J x R s K
  | .one (.lf (.val (.bool false)))=>Ug T S Γ n J y R s K
  | .one (.lf (.unk p))=> .unk p (Ug T S Γ n J x R s K) (Ug T S Γ n J y R s K)
  | _=> .halt 2 s
 | .block id b,R,s,K=>Ug T S Γ n J b R s fun e s=>
  match e with
  | .normal=>K .normal s
  | .exit j=>(match Nat.beq j id with
   | true=>K .normal s
   | false=>K (.exit j) s)
  | .ret=>K .ret s
 | .loop b,R,s,K=>
  match J (uh b)with
  | none=>(match J (600000+uh b)with
   | none=> .halt (300000+uh b) s
   | some sh=>Nat.rec (motive:=fun _=>St D->Tr D R) (fun s=> .halt (700000+uh b) s) (fun _ ih s=>Ug T S Γ n J b R s fun e s'=>
    match e with
    | .normal=>ih s'
    | .exit i=>K (.exit i) s'
    | .ret=>K .ret s') (sh.its fun _=> .one (.lf .any)).length s)
  | some sh=>
   match aor sh (writes b) s s with
   | none=> .halt (400000+uh b) s
   | some x0=> .loop sh.X x0 fun x=>Ug T S Γ n J b (sh.X⊕R) (xy (sh.its s.slot) (writes b) s (sh.enc x)) fun e s'=>
    match e with
    | .normal=>(match aor sh (writes b) s s' with
     | some x'=> .ret (.inl x')
     | none=> .halt (500000+uh b) s')
    | .exit i=>(K (.exit i) s').map (sh.X⊕R) .inr
    | .ret=>(K .ret s').map (sh.X⊕R) .inr
 | .exit id,R,s,K=>K (.exit id) s
 | .ret,R,s,K=>K .ret s
 | .scope b,R,s,K=>Ug T S Γ n J b R s K
 | .label _,R,s,K=>K .normal s
 | _,_,s,_=> .halt 3 s
end
section
variable {D:Type}{P:Program}{S:Sh D}{T:TypeId->Option Ty}{Γ:FuncId->Option (Ct D)}{N:Nat->Prop}{w w':World}{w0:Bs}{g0:Nat->Option Value}{n:Nat}
def og (S:Sh D)(w0:Bs)(g0:Nat->Option Value)(N:Nat->Prop)(n:Nat)(s:St D)(a:Act)(w:World):Prop:=Holds S w0 g0 N n s.slot s.blk (· < s.next) a w
structure Tidy (g0:Nat->Option Value)(s:St D):Prop where
 slots:∀t,∀l∈(s.slot t).refs,l < s.next
 blks:∀l bk,s.blk l=some bk->l < s.next/\∀r∈bk.refs,r < s.next
 iO:∀l v,g0 l=some v->l < s.next
theorem X5 {g:Nat->Option Value}:∀{caps:List Nat} {vs:List Value},caps.map g=vs.map some->∀l∈caps,∃u,g l=some u
 | [],_,_,l,hl=>by simp at hl
 | c::cs,[],h,l,hl=>by simp at h
 | c::cs,v::vs,h,l,hl=>by
  simp only[DT,Qdh]at h;rcases xI.1 hl with rfl | hl
  ·exact⟨v,h.1⟩
  ·exact X5 h.2 l hl
theorem Lf.iT {M:Nat->Prop}{g:Nat->Option Value}{x:Lf D}{v:Value}(h:x.Rel S M w g v):∀l∈x.refs,∃u,g l=some u:=by
 cases x<;>simp only[Lf.refs]<;>intro l hl
 case ptr l' o=>simp at hl;subst hl;obtain⟨b,h1,_⟩:=h;exact⟨_,h1⟩
 case own l'=>simp at hl;subst hl;exact⟨_,h⟩
 case opt l' i j sz=>simp at hl;subst hl;obtain⟨b,n,cap,h1,_⟩:=h;exact⟨_,h1⟩
 case fn f caps=>obtain⟨vs,_,h2⟩:=h;exact X5 h2 l hl
 case part l' i j sz f=>simp at hl;subst hl;obtain⟨a,n,cap,h1,_⟩:=h;exact⟨_,h1⟩
 all_goals simp at hl
theorem aY.iT {M:Nat->Prop}{g:Nat->Option Value}:∀{xs:List (Lf D)} {vs:List Value},aY S M w g xs vs->∀l∈xs.flatMap Lf.refs,∃u,g l=some u
 | [],_,_,l,hl=>by simp at hl
 | x::xs,v::vs,h,l,hl=>by
  simp only[Qbu,rW]at hl;rcases hl with hl | hl
  ·exact Lf.iT h.1 l hl
  ·exact aY.iT h.2 l hl
theorem Sv.iT {M:Nat->Prop}{g:Nat->Option Value}{x:Sv D}{v:Value}(h:x.Rel S M w g v):∀l∈x.refs,∃u,g l=some u:=by
 cases x with
 | lf x=>exact Lf.iT h
 | agg xs=>obtain⟨vs,_,hr⟩:=h;exact aY.iT hr
theorem iM.iT {M:Nat->Prop}{g:Nat->Option Value}:∀{xs:List (Sv D)} {vs:List Value},iM S M w g xs vs->∀l∈xs.flatMap Sv.refs,∃u,g l=some u
 | [],_,_,l,hl=>by simp at hl
 | x::xs,v::vs,h,l,hl=>by
  simp only[Qbu,rW]at hl;rcases hl with hl | hl
  ·exact Sv.iT h.1 l hl
  ·exact iM.iT h.2 l hl
theorem Sl.iT {M:Nat->Prop}{g:Nat->Option Value}{x:Sl D}{v:Value}(h:x.Rel S M w g v):∀l∈x.refs,∃u,g l=some u:=by
 cases x with
 | one x=>exact Sv.iT h
 | yD xs=>obtain⟨vs,_,hr⟩:=h;exact iM.iT hr
theorem aaR {s:St D}{a:Act}(h:og S w0 g0 N n s a w):Tidy g0 s:=by
 obtain⟨g,hp,hs,hn,hdf,hm⟩:=h;refine⟨fun t l hl=> ?_,fun l bk hb=>⟨?_,fun r hr=> ?_⟩,fun l v hl=>hp.al l v (hm l v hl)⟩
 ·obtain⟨u,hu⟩:=Sl.iT (hs t) l hl;exact hp.al l u hu
 ·obtain⟨v,hv,_⟩:=hp.dE l bk hb;exact hp.al l v hv
 ·obtain⟨v,hv,hok⟩:=hp.dE l bk hb;cases bk with
  | cells cs=>
   obtain⟨b,vs,t,_,_,_,hr'⟩:=hok;obtain⟨u,hu⟩:=aY.iT hr' r hr;exact hp.al r u hu
  | row e d=>simp[Bk.refs]at hr
  | xw d=>simp[Bk.refs]at hr
  | iter s p=>simp[Bk.refs]at hr
  | map kvs=>simp[Bk.refs]at hr
  | tc t cs=>
   obtain⟨b,vs,_,_,_,hr'⟩:=hok;obtain⟨u,hu⟩:=aY.iT hr' r hr;exact hp.al r u hu
theorem N7:∀{l:List Nat},Vz l=true->l.Nodup
 | [],_=>Qc9
 | x::r,h=>by
  simp only[Vz,jR,Qbr]at h;exact Qdj.2 ⟨fun hm=>by rw[g_.2 hm]at h;simp at h,N7 h.2⟩
theorem JJ {x:Nat}{l:List Nat}(h:rO x l=false):x∉l:=fun hm=>by rw[g_.2 hm]at h;cases h
theorem pW {α:Type}(d:α)(a b:List (Nat×α))(l:Nat):look d (a++b) l=if l∈a.map (·.1)then look d a l else look d b l:=by
 induction a with
 | nil=>simp
 | cons p r ih=>
  obtain⟨k,v⟩:=p;simp only[Qb5,look];by_cases h:l=k
  ·subst h;simp
  ·have:¬(l.beq k=true):=fun e=>h (Qa e)
   rw[lL this,lL this,ih];have:(l∈((k,v)::r).map (·.1)) ↔ l∈r.map (·.1):=by simp[h]
   simp only[this]
theorem aoY {W:List Nat}{t:Nat}(h:t∈W):look (.one (.lf .any)) (W.map fun t=>(t,(.one (.lf .any):Sl D))) t= .one (.lf .any):=by
 induction W with
 | nil=>simp at h
 | cons x r ih=>
  simp only[DT,look];split
  ·rfl
  ·rename_i hx;rcases xI.1 h with rfl | h
   ·simp at hx
   ·exact ih h
theorem aoq {W:List Nat}{t:Nat}(h:t∈W):look none (W.map fun t=>(t,(none:Option (Bk D)))) t=none:=by
 induction W with
 | nil=>simp at h
 | cons x r ih=>
  simp only[DT,look];split
  ·rfl
  ·rename_i hx;rcases xI.1 h with rfl | h
   ·simp at hx
   ·exact ih h
theorem Ua (b:List (Nat×Sl D))(t:Nat)(d:Sl D):∀(ss:List (Nat×Sl D)),look d (ss++b) t=match PX ss t with
  | some y=>y
  | none=>look d b t
 | []=>rfl
 | (k,v)::r=>by
  simp only[Qb5,look,PX];split
  ·rfl
  ·exact Ua b t d r
theorem VB (b:List (Nat×Option (Bk D)))(l:Nat):∀(bs:List (Nat×Bk D)),look none ((bs.map fun q=>(q.1,some q.2))++b) l=match jP bs l with
  | some bk=>some bk
  | none=>look none b l
 | []=>rfl
 | (k,v)::r=>by
  simp only[DT,Qb5,look,jP];by_cases h:k=l
  ·subst h;simp
  ·have h1:¬(l.beq k=true):=fun e=>h (Qa e).symm
   have h2:¬(k.beq l=true):=fun e=>h (Qa e)
   rw[lL h1,lL h2];exact VB b l r
theorem oz {W:List Nat}:∀{is:List It} {cs:List (List (Lf D))} {nx:Nat},zk W is=true->∀t y,(t,y)∈(fC is cs nx).1->t∈W
 | [],cs,nx,_,t,y,h=>by simp[fC]at h
 | i::is,[],nx,_,t,y,h=>by cases i<;>simp[fC]at h
 | .slot t' agg own::is,c::cs,nx,hw,t,y,h=>by
  simp only[zk,jR]at hw;simp only[fC]at h;rcases xI.1 h with h | h
  ·injection h with h1 _
   rw[h1];exact g_.1 hw.1
  ·exact oz hw.2 t y h
 | .cells l own::is,c::cs,nx,hw,t,y,h=>by
  simp only[fC]at h;exact oz qcj t y h
 | .row l e::is,c::cs,nx,hw,t,y,h=>by
  simp only[fC]at h;exact oz qcj t y h
 | .iter l::is,c::cs,nx,hw,t,y,h=>by
  simp only[fC]at h;exact oz qcj t y h
 | .tcs l t' own::is,c::cs,nx,hw,t,y,h=>by
  simp only[fC]at h;exact oz qcj t y h
 | .acW l::is,c::cs,nx,hw,t,y,h=>by
  simp only[fC]at h;exact oz qcj t y h
theorem Ew {is:List It}{W:List Nat}{s s':St D}{cs:List (List (Lf D))}(h:YU is W s s'=some cs):zk W is=true:=by
 unfold YU at h;split at h
 ·cases h
 ·split at h
  ·rename_i hc;simp only[jR]at hc;exact hc.2
  ·cases h
theorem RQ (hS:jf S){is:List It}{W:List Nat}{s s':St D}{cs cs':List (List (Lf D))}{a:Act}(ht:Tidy g0 s)(h:og S w0 g0 N n s' a w)(hpre:∃pre,s'.blks=pre++s.blks)(hfr:∀t,t∉W->s'.slot t=s.slot t)
  (ha:YU is W s s'=some cs) (hl:aij S cs cs'):og S w0 g0 N n (xy is W s cs') a w:=by
 obtain⟨g,hp,hs,hn,hdf,hm⟩:=h;unfold YU at ha;split at ha
 ·cases ha
 ·rename_i cs0 mv hab;split at ha
  ·rename_i hc;injection ha with ha
   subst ha;simp only[jR]at hc;obtain⟨⟨⟨⟨c1,c2⟩,c3⟩,c4⟩,c5⟩:=hc;have c1:=N7 c1;have c2:∀p∈mv,(s.next<=p.1\/p.1∈rM s is)/\p.1∉is.flatMap It.ids:=fun p hp=>by
    have:=Nv.1 c2 p hp;simp only[jR,Qbx,Qbr]at this;refine⟨?_,JJ this.2⟩;rcases this.1 with q | q
    ·exact .inl (Qa8 q)
    ·exact .inr (g_.1 q)
   have c3:∀l∈is.flatMap It.ids,l < s.next:=fun l hl=>by
    have:=Nv.1 c3 l hl;simpa[Hu]using this
   have c4:∀k∈Ry s s',s.next<=k\/k∈is.flatMap It.ids\/k∈rM s is:=fun k hk=>by
    have:=Nv.1 c4 k hk;simp only[Qbx]at this;rcases this with(q | q) | q
    ·exact .inl (Qa8 q)
    ·exact .inr (.inl (g_.1 q))
    ·exact .inr (.inr (g_.1 q))
   obtain⟨pre,hpre⟩:=hpre;have hkeys:Ry s s'=pre.map (·.1):=by
    unfold Ry;rw[hpre];simp
   have aKg:∀l,l < s.next->l∉rM s is->l∉mv.map (·.1):=fun l h1 h2 hm'=>by
    obtain⟨p,hp',rfl⟩:=zI.1 hm';rcases(c2 p hp').1 with q | q
    ·omega
    ·exact h2 q
   let Bf:Nat->Sl D:=fun t=>if t∈W then .one (.lf .any)else s.slot t
   let FP:Nat->Option (Bk D):=fun l=>if l∈rM s is++is.flatMap It.ids then none else s.blk l
   have hbs:∀t,Bf t= .one (.lf .any)\/(s'.slot t=Bf t/\∀l∈(Bf t).refs,l < s.next):=fun t=>by
    by_cases hw:t∈W
    ·exact .inl (mi hw)
    ·have e:Bf t=s.slot t:=lL hw;rw[e];exact .inr ⟨hfr t hw,ht.slots t⟩
   have hbb:∀l bk,FP l=some bk->l < s.next/\s'.blk l=some bk/\(∀r∈bk.refs,r < s.next)/\l∉mv.map (·.1):=fun l bk hb=>by
    by_cases hin:l∈rM s is++is.flatMap It.ids
    ·have:FP l=none:=mi hin;rw[this]at hb;cases hb
    ·have e:FP l=s.blk l:=lL hin;rw[e]at hb;simp only[rW,not_or]at hin;obtain⟨q1,q2⟩:=ht.blks l bk hb;refine⟨q1,?_,q2,aKg l q1 hin.1⟩;have hno:l∉pre.map (·.1):=fun hk=>by
      rw[<-hkeys]at hk;rcases c4 l hk with q | q | q
      ·omega
      ·exact hin.2 q
      ·exact hin.1 q
     show look none s'.blks l=some bk
     rw[hpre,pW,lL hno];exact hb
   obtain⟨g',hp',hs',hg'⟩:=afB (slot:=s'.slot) (val:=fun t=>a.tmps.getD t undef) (nx:=s.next) hS hp hs hab hl (Prod.eta _).symm c1
    (fun l hl=>⟨c3 l hl,fun hm'=>by
     obtain⟨p,hp',rfl⟩:=zI.1 hm';exact(c2 p hp').2 hl⟩) hbs hbb
   have e1:(xy is W s cs').blk=ui (fC is cs' s.next).2.1 FP:=by
    funext l;show look none ((fC is cs' s.next).2.1.map (fun q=>(q.1,some q.2))++_) l=_
    rw[VB];unfold ui;split
    ·rename_i bk hbk;rw[hbk]
    ·rename_i hbk;rw[hbk];dsimp only;rw[pW,Qc2];have:(fun p:Nat×Option (Bk D)=>p.1)∘(fun k:Nat=>(k,(none:Option (Bk D))))=id:=rfl;rw[this,Qeu];by_cases hin:l∈rM s is++is.flatMap It.ids
     ·rw[mi hin,aoq hin];exact(mi hin).symm
     ·rw[lL hin];exact(lL hin).symm
   have e2:(xy is W s cs').slot=VC (fC is cs' s.next).1 Bf:=by
    funext t;show look _ ((fC is cs' s.next).1++_) t=_
    rw[Ua];unfold VC;split
    ·rename_i y hy;rw[hy]
    ·rename_i hy;rw[hy];dsimp only;rw[pW,Qc2];have:(fun p:Nat×Sl D=>p.1)∘(fun t:Nat=>(t,(.one (.lf .any):Sl D)))=id:=rfl;rw[this,Qeu];by_cases hin:t∈W
     ·rw[mi hin,aoY hin];exact(mi hin).symm
     ·rw[lL hin];exact(lL hin).symm
   refine⟨g',?_,?_,hn,hdf,fun l v hl=>(hg' l (ht.iO l v hl)).trans (hm l v hl)⟩
   ·rw[e1];exact hp'
   ·rw[e1,e2];exact hs'
  ·cases ha
theorem Vb {is:List It}{W:List Nat}{s:St D}{cs:List (List (Lf D))}:∃pre,(xy is W s cs).blks=pre++s.blks:=⟨_,(Oy _ _ _).symm⟩
theorem NY {is:List It}{W:List Nat}{s:St D}{cs:List (List (Lf D))}(hw:zk W is=true){t:Nat}(h:t∉W):(xy is W s cs).slot t=s.slot t:=by
 show look _ ((fC is cs s.next).1++_) t=look _ s.tmps t
 rw[pW,lL,pW,lL]
 ·rw[Qc2];have:(fun p:Nat×Sl D=>p.1)∘(fun t:Nat=>(t,(.one (.lf .any):Sl D)))=id:=rfl;rw[this,Qeu];exact h
 ·intro hm;obtain⟨⟨t',y⟩,hty,rfl⟩:=zI.1 hm;exact h (oz hw t' y hty)
theorem aiW {id:Nat}{ops:Array Oper}{draw:Bool}{s:St D}{τ:Type 1}{A:Alg τ}{den:τ->Prop}(hA:WN A den){K:St D->τ}{a:Act}{Q:Exit->Act->World->Prop}(hmx:P.follows .mixedOrders=true)(hTy:∀t ty,T t=some ty->fP P t ty)(hΓ:∀f ct,Γ f=some ct->fV P S f ct)(hS:jf S)
  (hd:(!draw || yP ops)=true) (hv:den (oK A T S Γ ops n draw ops.toList 0 [] s K)) (h:og S w0 g0 N n s a w)
  (hQ:∀s' a' w',og S w0 g0 N n s' a' w'->(∃pre,s'.blks=pre++s.blks)->(∀t,t∉ops.toList.filterMap (·.dst)->s'.slot t=s.slot t)->den (K s')->Q .normal a' w'):(Code.region id ops draw).wp P Q a w:=by
 obtain⟨Ws,s',htr,h1,h2,h3,h4,h5,h6,h7⟩:=ZL hA _ _ _ _ hv;simp only[Nat.mul_zero,Qm]at htr;have hlen:ops.toList.length=ops.size:=by simp
 have hno:∀t,t∉ops.toList.filterMap (·.dst)->s'.slot t=s.slot t:=fun t ht=>by
  have:∀o∈ops.toList,o.dst≠some t:=fun o ho e=>ht (Qde.2 ⟨o,ho,e⟩)
  exact h7 t this this
 have fin:∀a w,Holds S w0 g0 N n (Du s.slot Ws) (Hz s.blk Ws) (· < s.next+64*ops.size) a w->Q .normal a w:=by
  intro a w hh;refine hQ s' a w ?_ h6 hno h4;unfold og;rw[h2,h3,hlen,DU];exact hh.alike h1
 cases draw with
 | false=>
  refine wp_region ?_;rw[List.range_eq_range',<-hlen];exact aeF hTy hΓ hS ops.toList Ws 0 s.next s.slot s.blk a w (fun j=>by simp) htr h (by rw[hlen];exact fin)
 | true=>
  have hd:yP ops=true:=by simpa using hd
  exact afk hmx hTy hΓ hS hd htr (ahz (h5 rfl)) h fin
theorem uS {a b c:List (Nat×Option (Bk D))}(h1:∃p,b=p++a)(h2:∃p,c=p++b):∃p,c=p++a:=by
 obtain⟨p,rfl⟩:=h1;obtain⟨q,rfl⟩:=h2;exact⟨q++p,by simp⟩
theorem GZ {sh:Ho D}{W:List Nat}{s s':St D}{x:sh.X}(hsh:ru S sh)(h:aor sh W s s'=some x):∃cs,YU (sh.its s.slot) W s s'=some cs/\aij S cs (sh.enc x):=by
 unfold aor at h;split at h
 ·rename_i cs hcs;exact⟨cs,hcs,hsh.ok cs x h⟩
 ·cases h
theorem zl {X R:Type}:∀a b:R,(Sum.inr a:X⊕R)= .inr b->a=b:=fun a b h=>by injection h
theorem ahU {s:St D}{a:Act}(h:og S w0 g0 N n s a w){o:Oper}{p:Prop}(hl:atg S s o=some p):p:=by
 obtain⟨g,hp,hs,_⟩:=h;unfold atg at hl;split at hl
 ·split at hl
  ·rename_i t _ _;have ht:=hs t;split at hl
   ·rename_i d hd;injection hl with hl
    subst hl;rw[hd]at ht;exact dA.ajb ht
   ·rename_i x hx;injection hl with hl
    subst hl;rw[hx]at ht;exact ht.2
   ·rename_i l hx;split at hl
    ·rename_i e d hb;injection hl with hl
     subst hl;obtain⟨v,_,hok⟩:=hp.dE l _ hb;exact hok.1.2.1
    ·cases hl
   ·cases hl
  ·cases hl
 ·cases hl
theorem Ny {s:St D}{a:Act}(h:og S w0 g0 N n s a w){R:Type}{k:Tr D R}{e0 r0:R}:∀(ops:List Oper),(ad6 S s k ops).run e0=some r0->k.run e0=some r0
 | [],hk=>hk
 | o::r,hk=>by
  unfold ad6 at hk;split at hk
  ·rename_i p _ hp;simp only[Tr.run]at hk;rw[zy (ahU h hp)]at hk;exact Ny h r hk
  ·exact Ny h r hk
theorem VY {J:Nat->Option (Ho D)}(hJ:∀i sh,J i=some sh->ru S sh)(hmx:P.follows .mixedOrders=true)(hTy:∀t ty,T t=some ty->fP P t ty)(hΓ:∀f ct,Γ f=some ct->fV P S f ct)(hS:jf S):
  ∀(c:Code) (R:Type) (s:St D) (K:Ex->St D->Tr D R) (e0 r0:R) (Q:Exit->Act->World->Prop) (a:Act) (w:World),rE c=true->(Ug T S Γ n J c R s K).run e0=some r0->og S w0 g0 N n s a w->
   (∀e s' a' w',og S w0 g0 N n s' a' w'->(∃pre,s'.blks=pre++s.blks)->(∀t,t∉writes c->s'.slot t=s.slot t)->(K e s').run e0=some r0->Q (aJN e) a' w')->c.wp P Q a w:=by
 intro c;induction c with
 | skip=>intro R s K e0 r0 Q a w _ hv h hQ;exact wp_skip (hQ .normal s a w h ⟨[],rfl⟩ (fun _ _=>rfl) hv)
 | region id ops draw=>
  intro R s K e0 r0 Q a w hd hv h hQ;refine aiW (den:=fun t:Tr D R=>t.run e0=some r0) (as6 e0 r0) hmx hTy hΓ hS hd hv h fun s' a' w' h' h1 h2 hk=> ?_;have hk:=Ny h' _ hk;split at hk
  ·exact hQ .normal s' a' w' h' h1 h2 hk
  ·rename_i sh hsh;split at hk
   ·rename_i x hx;obtain⟨cs,q1,q2⟩:=GZ (hJ _ sh hsh) hx;exact hQ .normal _ a' w' (RQ hS (aaR h') h' ⟨[],rfl⟩ (fun _ _=>rfl) q1 q2) (uS h1 Vb) (fun t ht=>(NY (Ew q1) qa2).trans (h2 t ht)) hk
   ·cases hk
 | seq x y ihx ihy=>
  intro R s K e0 r0 Q a w hd hv h hQ;simp only[rE,jR]at hd;simp only[Ug]at hv;have hw:∀{t:Nat},t∉writes (.seq x y)->t∉writes x/\t∉writes y:=fun{t} ht=>by
   simp only[writes,rW,not_or]at ht;exact ht
  split at hv
  ·refine wp_seq (ihx R s _ e0 r0 _ a w hd.1 hv h fun e s' a' w' h' h1 h2 hk=> ?_);cases e with
   | normal=>exact ihy R s' K e0 r0 Q a' w' hd.2 hk h' fun e s2 a2 w2 k k1 k2 k3=>hQ e s2 a2 w2 k (uS h1 k1) (fun t ht=>(k2 t (hw ht).2).trans (h2 t (hw ht).1)) k3
   | exit i=>exact hQ (.exit i) s' a' w' h' h1 (fun t ht=>h2 t (hw ht).1) hk
   | ret=>exact hQ .ret s' a' w' h' h1 (fun t ht=>h2 t (hw ht).1) hk
  ·rename_i sh hsh;have hok:=hJ _ sh hsh;have ht:=aaR h;rcases Uw hv with⟨x0,hv1,hv2⟩ | hv1
   ·refine wp_seq (ihx _ s _ _ _ _ a w hd.1 hv1 h fun e s' a' w' h' h1 h2 hk=> ?_);cases e with
    | normal=>
     dsimp only at hk;split at hk
     ·rename_i x1 hx1;injection hk with hk
      injection hk with hk
      subst hk;obtain⟨cs,q1,q2⟩:=GZ hok hx1;refine ihy R _ K e0 r0 Q a' w' hd.2 hv2 (RQ hS ht h' h1 h2 q1 q2) fun e s2 a2 w2 k k1 k2 k3=>hQ e s2 a2 w2 k (uS Vb k1) (fun t ht=>(k2 t (hw ht).2).trans (NY (Ew q1) (hw ht).1)) k3
     ·cases hk
    | exit i=>
     obtain⟨r,q,_⟩:=Tr.run_map _ _ _ zl _ _ hk;cases q
    | ret=>
     obtain⟨r,q,_⟩:=Tr.run_map _ _ _ zl _ _ hk;cases q
   ·refine wp_seq (ihx _ s _ _ _ _ a w hd.1 hv1 h fun e s' a' w' h' h1 h2 hk=> ?_);cases e with
    | normal=>
     dsimp only at hk;split at hk
     ·injection hk with hk;cases hk
     ·cases hk
    | exit i=>
     obtain⟨r,q,hr⟩:=Tr.run_map _ _ _ zl _ _ hk;injection q with q
     subst q;exact hQ (.exit i) s' a' w' h' h1 (fun t ht=>h2 t (hw ht).1) hr
    | ret=>
     obtain⟨r,q,hr⟩:=Tr.run_map _ _ _ zl _ _ hk;injection q with q
     subst q;exact hQ .ret s' a' w' h' h1 (fun t ht=>h2 t (hw ht).1) hr
 | cond c x y ihx ihy=>
  intro R s K e0 r0 Q a w hd hv h hQ;simp only[rE,jR]at hd;simp only[Ug]at hv;have hh:=h;obtain⟨g,hp,hs,_⟩:=h;have hc:=oU hs c;have X:=fun hv=>ihx R s K e0 r0 Q a w hd.1 hv hh fun e s' a' w' h' h1 h2 hk=>hQ e s' a' w' h' h1 (fun t ht=>h2 t (by simp only[writes,rW,not_or]at ht;exact ht.1)) hk
  have Y:=fun hv=>ihy R s K e0 r0 Q a w hd.2 hv hh fun e s' a' w' h' h1 h2 hk=>hQ e s' a' w' h' h1 (fun t ht=>h2 t (by simp only[writes,rW,not_or]at ht;exact ht.2)) hk
  split at hv
  ·rename_i b hb;rw[hb]at hc;cases b with
   | true=>exact wp_cond_true hc (X hv)
   | false=>exact wp_cond_false hc (Y hv)
  ·rename_i hb;rw[hb]at hc;exact wp_cond_true hc (X hv)
  ·rename_i hb;rw[hb]at hc;exact wp_cond_false hc (Y hv)
  ·rename_i p hb;rw[hb]at hc;obtain⟨b,hvb,hpb⟩:=hc;obtain⟨_,q1,q2⟩:=Yx hv;cases b with
   | true=>exact wp_cond_true hvb (X (q1 hpb))
   | false=>exact wp_cond_false hvb (Y (q2 hpb))
  ·cases hv
 | scope b ih=>
  intro R s K e0 r0 Q a w hd hv h hQ;refine wp_scope_straight (ih R s K e0 r0 _ a w hd hv h fun e s' a' w' h' h1 h2 hk=> ?_);cases e with
  | normal=>exact hQ .normal s' a' w' h' h1 h2 hk
  | exit j=>exact hQ (.exit j) s' a' w' h' h1 h2 hk
  | ret=>exact hQ .ret s' a' w' h' h1 h2 hk
 | label l=>intro R s K e0 r0 Q a w _ hv h hQ;exact wp_label (hQ .normal s a w h ⟨[],rfl⟩ (fun _ _=>rfl) hv)
 | block id b ih=>
  intro R s K e0 r0 Q a w hd hv h hQ;refine wp_block (ih R s _ e0 r0 _ a w hd hv h fun e s' a' w' h' h1 h2 hk=> ?_);cases e with
  | normal=>exact hQ .normal s' a' w' h' h1 h2 hk
  | exit j=>
   simp only at hk;show Exit.inBlock id Q (.exit j) a' w'
   simp only[Exit.inBlock];split at hk
   ·rename_i hj;rw[mi (Qa hj)];exact hQ .normal s' a' w' h' h1 h2 hk
   ·rename_i hj;rw[lL (by rintro rfl;simp at hj)];exact hQ (.exit j) s' a' w' h' h1 h2 hk
  | ret=>exact hQ .ret s' a' w' h' h1 h2 hk
 | loop b ih=>
  intro R s K e0 r0 Q a w hd hv h hQ;simp only[Ug]at hv;split at hv
  ·split at hv
   ·cases hv
   rename_i shu _;generalize hk:(shu.its fun _=> .one (.lf .any)).length=k at hv;refine wp_loop_ghost (fun m a w=>∃s',(Nat.rec (motive:=fun _=>St D->Tr D R) (fun s=> .halt (700000+uh b) s) (fun _ ih s=>Ug T S Γ n J b R s fun e s'=>
    match e with
    | .normal=>ih s'
    | .exit i=>K (.exit i) s'
    | .ret=>K .ret s') m s':Tr D R).run e0=some r0/\og S w0 g0 N n s' a w/\(∃pre,s'.blks=pre++s.blks)/\∀t,t∉writes b->s'.slot t=s.slot t) k ⟨s,hv,h,⟨[],rfl⟩,fun _ _=>rfl⟩ ?_
   rintro m a w ⟨s1,hr,hh,hp1,hs1⟩;cases m with
   | zero=>cases hr
   | succ m=>
    refine ih _ _ _ _ _ _ a w hd hr hh fun e s' a' w' h' h1 h2 hk=> ?_;cases e with
    | normal=>exact⟨m,by omega,s',hk,h',uS hp1 h1,fun t ht=>(h2 t ht).trans (hs1 t ht)⟩
    | exit i=>exact hQ (.exit i) s' a' w' h' (uS hp1 h1) (fun t ht=>(h2 t ht).trans (hs1 t ht)) hk
    | ret=>exact hQ .ret s' a' w' h' (uS hp1 h1) (fun t ht=>(h2 t ht).trans (hs1 t ht)) hk
  rename_i sh hsh;have hok:=hJ _ sh hsh;have ht:=aaR h;split at hv
  ·cases hv
  rename_i x0 hx0;obtain⟨cs0,q1,q2⟩:=GZ hok hx0;have hsl:=Ew q1;obtain⟨m0,hm0⟩:=xQ hv;refine wp_loop_ghost (fun m a w=>∃x,pI _ m x=some r0/\og S w0 g0 N n (xy (sh.its s.slot) (writes b) s (sh.enc x)) a w) m0 ⟨x0,hm0,RQ hS ht h ⟨[],rfl⟩ (fun _ _=>rfl) q1 q2⟩ ?_;rintro m a w ⟨x,hx,hh⟩;cases m with
  | zero=>simp[pI]at hx
  | succ m=>
   have back:∀s':St D,(∃pre,s'.blks=pre++(xy (sh.its s.slot) (writes b) s (sh.enc x)).blks)->∃pre,s'.blks=pre++s.blks:=fun s' h1=>uS Vb h1
   have avA:∀s':St D,(∀t,t∉writes b->s'.slot t=(xy (sh.its s.slot) (writes b) s (sh.enc x)).slot t)->∀t,t∉writes b->s'.slot t=s.slot t:=fun s' h2 t ht=>(h2 t ht).trans (NY hsl ht)
   unfold pI at hx;split at hx
   ·cases hx
   ·rename_i x' hstep;refine ih _ _ _ _ _ _ a w hd hstep hh fun e s' a' w' h' h1 h2 hk=> ?_;cases e with
    | normal=>
     dsimp only at hk;split at hk
     ·rename_i x1 hx1;injection hk with hk
      injection hk with hk
      subst hk;obtain⟨cs,k1,k2⟩:=GZ hok hx1;exact⟨m,by omega,_,hx,RQ hS ht h' (back s' h1) (avA s' h2) k1 k2⟩
     ·cases hk
    | exit i=>
     obtain⟨r,q,_⟩:=Tr.run_map _ _ _ zl _ _ hk;cases q
    | ret=>
     obtain⟨r,q,_⟩:=Tr.run_map _ _ _ zl _ _ hk;cases q
   ·rename_i r1 hstep;injection hx with hx
    subst hx;refine ih _ _ _ _ _ _ a w hd hstep hh fun e s' a' w' h' h1 h2 hk=> ?_;cases e with
    | normal=>
     dsimp only at hk;split at hk
     ·injection hk with hk;cases hk
     ·cases hk
    | exit i=>
     obtain⟨r,q,hr⟩:=Tr.run_map _ _ _ zl _ _ hk;injection q with q
     subst q;exact hQ (.exit i) s' a' w' h' (back s' h1) (avA s' h2) hr
    | ret=>
     obtain⟨r,q,hr⟩:=Tr.run_map _ _ _ zl _ _ hk;injection q with q
     subst q;exact hQ .ret s' a' w' h' (back s' h1) (avA s' h2) hr
 | exit id=>intro R s K e0 r0 Q a w _ hv h hQ;exact wp_exit (hQ (.exit id) s a w h ⟨[],rfl⟩ (fun _ _=>rfl) hv)
 | ret=>intro R s K e0 r0 Q a w _ hv h hQ;exact wp_ret (hQ .ret s a w h ⟨[],rfl⟩ (fun _ _=>rfl) hv)
 | _=>intro R s K e0 r0 Q a w _ hv;cases hv
end
end Go.Vc

/- Own engine: Vdm. -/
import Derived.Test.YtihakigfhcankaaGreatDoorEng7
import Derived.Scope
set_option linter.unusedVariables false
set_option linter.unusedSimpArgs false
namespace Go.Vc
open Go.RowKit
section
variable {R R' X:Type}
open Classical in
noncomputable def need (p:Prop)(k:Option R):Option R:=if p then k else none
open Classical in
noncomputable def both (p:Bool->Prop)(t e:Option R):Option R:=
 if h:(∃b,p b)/\∃r,(p true->t=some r)/\(p false->e=some r)then some (Classical.choose h.2)else none
open Classical in
noncomputable def asm (p:Prop)(e:R)(k:Option R):Option R:=if p then k else some e
def oW (step:X->Option (X⊕R)):Nat->X->Option R
 | 0,_=>none
 | n+1,x=>match step x with
  | none=>none
  | some (.inl x')=>oW step n x'
  | some (.inr r)=>some r
open Classical in
noncomputable def qE (step:X->Option (X⊕R))(x:X):Option R:=
 if h:∃r n,oW step n x=some r then some (Classical.choose h)else none
def ajZ (a:Option (X⊕R))(k:X->Option R):Option R:=
 match a with
 | none=>none
 | some (.inl x)=>k x
 | some (.inr r)=>some r
theorem x_ {p:Prop}{e:R}{k:Option R}(h:p):asm p e k=k:=by unfold asm;exact Qb h
theorem Bq {p:Prop}{e:R}{k:Option R}(h:¬p):asm p e k=some e:=by unfold asm;exact qC h
theorem wG {p:Prop}{k:Option R}(h:p):need p k=k:=by unfold need;exact Qb h
theorem XP {p:Prop}{k:Option R}{r:R}(h:need p k=some r):p/\k=some r:=by
 unfold need at h;split at h
 ·rename_i hp;exact⟨hp,h⟩
 ·cases h
@[simp] theorem aEm {k:Option R}:need True k=k:=wG trivial
theorem Xm {p:Bool->Prop}{t e:Option R}{r:R}(h:both p t e=some r):(∃b,p b)/\(p true->t=some r)/\(p false->e=some r):=by
 unfold both at h;split at h
 ·rename_i hh;injection h with h
  subst h;exact⟨hh.1,Qb9 hh.2⟩
 ·cases h
theorem abv {p:Bool->Prop}{t e:Option R}{r:R}(h:∃b,p b)(h1:p true->t=some r)(h2:p false->e=some r):both p t e=some r:=by
 unfold both;rw[dif_pos ⟨h,r,h1,h2⟩];obtain⟨q1,q2⟩:=Qb9 (⟨r,h1,h2⟩:∃r,(p true->t=some r)/\(p false->e=some r));obtain⟨b,hb⟩:=h;cases b with
 | true=>rw[<-q1 hb];exact h1 hb
 | false=>rw[<-q2 hb];exact h2 hb
theorem G9 {step:X->Option (X⊕R)}:∀{n m:Nat} {x:X} {r:R},oW step n x=some r->n<=m->oW step m x=some r
 | 0,_,_,_,h,_=>by simp[oW]at h
 | n+1,0,_,_,_,h=>by omega
 | n+1,m+1,x,r,h,hm=>by
  unfold oW at h⊢;split at h
  ·cases h
  ·exact G9 h au
  ·exact h
theorem Jh {step:X->Option (X⊕R)}{n:Nat}{x:X}{r:R}(h:oW step n x=some r):qE step x=some r:=by
 unfold qE;have hh:∃r n,oW step n x=some r:=⟨r,n,h⟩;rw[dif_pos hh];obtain⟨m,hm⟩:=Qb9 hh;have h1:=G9 h (Nat.le_max_left n m);have h2:=G9 hm (Nat.le_max_right n m);rw[h1]at h2;exact h2.symm
theorem wF {step:X->Option (X⊕R)}{x:X}{r:R}(h:qE step x=some r):∃n,oW step n x=some r:=by
 unfold qE at h;split at h
 ·rename_i hh;injection h with h
  subst h;exact Qb9 hh
 ·cases h
theorem wK (step:X->Option (X⊕R))(x:X):qE step x=match step x with
  | none=>none
  | some (.inl x')=>qE step x'
  | some (.inr r)=>some r:=by
 cases hs:step x with
 | none=>
  cases hu:qE step x with
  | none=>rfl
  | some r=>
   obtain⟨n,hn⟩:=wF hu;cases n with
   | zero=>simp[oW]at hn
   | succ n=>simp[oW,hs]at hn
 | some y=>
  cases y with
  | inr r=>exact Jh (n:=1) (by simp[oW,hs])
  | inl x'=>
   dsimp only;cases hu:qE step x' with
   | some r=>
    obtain⟨n,hn⟩:=wF hu;exact Jh (n:=n+1) (by simp[oW,hs,hn])
   | none=>
    cases hv:qE step x with
    | none=>rfl
    | some r=>
     obtain⟨n,hn⟩:=wF hv;cases n with
     | zero=>simp[oW]at hn
     | succ n=>
      simp only[oW,hs]at hn;rw[Jh hn]at hu;cases hu
theorem Rt {a:Option (X⊕R)}{k:X->Option R}{r:R}(h:ajZ a k=some r):(∃x,a=some (.inl x)/\k x=some r)\/a=some (.inr r):=by
 unfold ajZ at h;split at h
 ·cases h
 ·exact .inl ⟨_,rfl,h⟩
 ·injection h with h;subst h;exact .inr rfl
end
inductive Tr (D:Type):Type->Type 1 where
 | ret {R:Type} (r:R):Tr D R
 | stuck {R:Type} (n:Nat):Tr D R
 | halt {R:Type} (n:Nat) (s:St D):Tr D R
 | ob {R:Type} (p:DP) (k:Tr D R):Tr D R
 | as {R:Type} (p:Prop) (k:Tr D R):Tr D R
 | br {R:Type} (b:Bool) (t e:Tr D R):Tr D R
 | unk {R:Type} (p:Bool->Prop) (t e:Tr D R):Tr D R
 | loop {R:Type} (X:Type) (x:X) (body:X->Tr D (X⊕R)):Tr D R
 | cut {R:Type} (X:Type) (a:Tr D (X⊕R)) (k:X->Tr D R):Tr D R
section
variable {D:Type}
noncomputable def Tr.run:{R:Type}->Tr D R->R->Option R
 | _, .ret r,_=>some r
 | _, .stuck _,_=>none
 | _, .halt _ _,_=>none
 | _, .ob p k,r=>need p.p (k.run r)
 | _, .as p k,r=>asm p r (k.run r)
 | _, .br b t e,r=>cond b (t.run r) (e.run r)
 | _, .unk p t e,r=>both p (t.run r) (e.run r)
 | _, .loop X x body,r=>qE (fun y=>(body y).run (.inr r)) x
 | _, .cut X a k,r=>ajZ (a.run (.inr r)) fun x=>(k x).run r
def Tr.map:{R:Type}->(R':Type)->(R->R')->Tr D R->Tr D R'
 | _,_,f, .ret r=> .ret (f r)
 | _,_,_, .stuck n=> .stuck n
 | _,_,_, .halt n s=> .halt n s
 | _,R',f, .ob p k=> .ob p (k.map R' f)
 | _,R',f, .as p k=> .as p (k.map R' f)
 | _,R',f, .br b t e=> .br b (t.map R' f) (e.map R' f)
 | _,R',f, .unk p t e=> .unk p (t.map R' f) (e.map R' f)
 | _,R',f, .loop X x body=> .loop X x fun y=>(body y).map (X⊕R') (Sum.map id f)
 | _,R',f, .cut X a k=> .cut X (a.map (X⊕R') (Sum.map id f)) fun x=>(k x).map R' f
theorem ajJ {X R R':Type}{f:R->R'}(hf:∀a b,f a=f b->a=b):∀a b:X⊕R,Sum.map id f a=Sum.map id f b->a=b
 | .inl a, .inl b,h=>by simpa using h
 | .inr a, .inr b,h=>by simp at h;rw[hf a b h]
 | .inl a, .inr b,h=>by simp at h
 | .inr a, .inl b,h=>by simp at h
theorem Tr.run_map:{R:Type}->(t:Tr D R)->(R':Type)->(f:R->R')->(∀a b,f a=f b->a=b)->(e0:R)->(r':R')->(t.map R' f).run (f e0)=some r'->∃r,r'=f r/\t.run e0=some r
 | _, .ret r,R',f,hf,e0,r',h=>by injection h with h;exact⟨r,h.symm,rfl⟩
 | _, .stuck n,R',f,hf,e0,r',h=>by cases h
 | _, .halt n s,R',f,hf,e0,r',h=>by cases h
 | _, .ob p k,R',f,hf,e0,r',h=>by
  obtain⟨h1,h2⟩:=XP h;obtain⟨r,e,hr⟩:=Tr.run_map k R' f hf e0 r' h2;exact⟨r,e,by simp only[Tr.run];rw[wG h1];exact hr⟩
 | _, .as p k,R',f,hf,e0,r',h=>by
  by_cases hp:p
  ·have h:(k.map R' f).run (f e0)=some r':=by simp only[Tr.map,Tr.run]at h;rwa [x_ hp]at h
   obtain⟨r,e,hr⟩:=Tr.run_map k R' f hf e0 r' h;exact⟨r,e,by simp only[Tr.run];rw[x_ hp];exact hr⟩
  ·simp only[Tr.map,Tr.run]at h;rw[Bq hp]at h;injection h with h
   exact⟨e0,h.symm,by simp only[Tr.run];rw[Bq hp]⟩
 | _, .br b t e,R',f,hf,e0,r',h=>by
  cases b with
  | true=>exact Tr.run_map t R' f hf e0 r' h
  | false=>exact Tr.run_map e R' f hf e0 r' h
 | _, .unk p t e,R',f,hf,e0,r',h=>by
  obtain⟨⟨b,hb⟩,h1,h2⟩:=Xm h;cases b with
  | true=>
   obtain⟨r,q1,q2⟩:=Tr.run_map t R' f hf e0 r' (h1 hb);refine⟨r,q1,abv ⟨true,hb⟩ (fun _=>q2) fun hb'=> ?_⟩;obtain⟨r2,q3,q4⟩:=Tr.run_map e R' f hf e0 r' (h2 hb');rw[hf r r2 (q1.symm.trans q3)];exact q4
  | false=>
   obtain⟨r,q1,q2⟩:=Tr.run_map e R' f hf e0 r' (h2 hb);refine⟨r,q1,abv ⟨false,hb⟩ (fun hb'=> ?_) fun _=>q2⟩;obtain⟨r2,q3,q4⟩:=Tr.run_map t R' f hf e0 r' (h1 hb');rw[hf r r2 (q1.symm.trans q3)];exact q4
 | _, .loop X x body,R',f,hf,e0,r',h=>by
  obtain⟨n,hn⟩:=wF h;have ih:=fun y=>Tr.run_map (body y) (X⊕R') (Sum.map id f) (ajJ hf) (.inr e0)
  have key:∀(n:Nat) (x:X),oW (fun y=>((body y).map (X⊕R') (Sum.map id f)).run (.inr (f e0))) n x=some r'->∃r,r'=f r/\oW (fun y=>(body y).run (.inr e0)) n x=some r:=by
   intro n;induction n with
   | zero=>intro x h;simp[oW]at h
   | succ n ihn=>
    intro x h;unfold oW at h;split at h
    ·cases h
    ·rename_i x' hx;obtain⟨z,e,hz⟩:=ih x _ hx;cases z with
     | inr z=>simp at e
     | inl z=>
      simp at e;subst e;obtain⟨r,q1,q2⟩:=ihn x' h;exact⟨r,q1,by simp only[oW];rw[hz];exact q2⟩
    ·rename_i r2 hx;injection h with h
     subst h;obtain⟨z,e,hz⟩:=ih x _ hx;cases z with
     | inl z=>simp at e
     | inr z=>
      simp at e;exact⟨z,e,by simp only[oW];rw[hz]⟩
  obtain⟨r,q1,q2⟩:=key n x hn;exact⟨r,q1,Jh q2⟩
 | _, .cut X a k,R',f,hf,e0,r',h=>by
  have iha:=Tr.run_map a (X⊕R') (Sum.map id f) (ajJ hf) (.inr e0);have ihk:=fun x=>Tr.run_map (k x) R' f hf e0
  rcases Rt h with⟨x,h1,h2⟩ | h1
  ·obtain⟨z,e,hz⟩:=iha _ h1;cases z with
   | inr z=>simp at e
   | inl z=>
    simp at e;subst e;obtain⟨r,q1,q2⟩:=ihk x r' h2;exact⟨r,q1,by simp only[Tr.run];rw[hz];exact q2⟩
  ·obtain⟨z,e,hz⟩:=iha _ h1;cases z with
   | inl z=>simp at e
   | inr z=>
    simp at e;exact⟨z,e,by simp only[Tr.run];rw[hz];rfl⟩
def az7 (D R:Type):Alg (Tr D R):=⟨.stuck 1, .ob, .br⟩
theorem asU {R:Type}(e0 r0:R):VJ (az7 D R) fun t=>t.run e0=some r0:=by
 refine⟨fun h=> ?_,fun{p k} h=>XP h,fun{b t e} h=> ?_⟩
 ·cases h
 ·cases b with
  | true=>exact⟨fun _=>h,fun e=>by cases e⟩
  | false=>exact⟨(fun e=>by cases e),fun _=>h⟩
structure FU (D:Type):Type 1 where
 X:Type
 its:(Nat->Sl D)->List It
 enc:X->List (List (Lf D))
 dec:List (List (Lf D))->Option X
def pid:Sl D->Nat
 | .one (.lf (.ptr l _))=>l
 | .one (.lf (.opt l _ _ _))=>l
 | .one (.lf (.own l))=>l
 | _=>1000000000
class qN (S:Sh D) (sh:FU D):Prop where
 ok:∀cs x,sh.dec cs=some x->agd S cs (sh.enc x)
inductive Ex where
 | normal
 | exit (id:Nat)
 | ret
def aHP:Ex->Exit
 | .normal=> .normal
 | .exit id=> .exit id
 | .ret=> .ret
def sV:Code->Nat
 | .region id _ _=>id
 | .seq a _=>sV a
 | .cond _ a _=>sV a
 | .block _ b=>sV b
 | .loop b=>sV b
 | .scope b=>sV b
 | _=>0
def qU:Code->Bool
 | .region _ ops draw=> !draw || xM ops
 | .seq a b=>qU a && qU b
 | .cond _ a b=>qU a && qU b
 | .block _ b=>qU b
 | .loop b=>qU b
 | .scope b=>qU b
 | _=>true
def writes:Code->List Nat
 | .region _ ops _=>ops.toList.filterMap (·.dst)
 | .seq a b=>writes a++writes b
 | .cond _ a b=>writes a++writes b
 | .block _ b=>writes b
 | .loop b=>writes b
 | .scope b=>writes b
 | _=>[]
def ru (s:St D):List It->List Nat
 | []=>[]
 | .slot t _ _::is=>(s.slot t).owns++ru s is
 | .cells l _::is=>(match s.blk l with
  | some (.cells xs)=>xs.flatMap Lf.owns
  | _=>[])++ru s is
 | .row _ _::is=>ru s is
 | .iter _::is=>ru s is
 | .ab9 _::is=>ru s is
 | .tcs l _ _::is=>(match s.blk l with
  | some (.tc _ xs)=>xs.flatMap Lf.owns
  | _=>[])++ru s is
def Qm (s s':St D):List Nat:=(s'.blks.take (s'.blks.length - s.blks.length)).map (·.1)
def Uw:List Nat->Bool
 | []=>true
 | x::r=> !rC x r && Uw r
def yx (W:List Nat):List It->Bool
 | []=>true
 | .slot t _ _::is=>rC t W && yx W is
 | _::is=>yx W is
def YW (is:List It)(W:List Nat)(s s':St D):Option (List (List (Lf D))):=
 match CZ s'.slot s'.blk is with
 | none=>none
 | some (cs,mv)=>
  if Uw (mv.map (·.1)) && (mv.all fun p=>(Nat.ble s.next p.1 || rC p.1 (ru s is)) && !rC p.1 (is.flatMap It.ids)) && ((is.flatMap It.ids).all fun l=>Nat.blt l s.next) &&
   ((Qm s s').all fun k=>Nat.ble s.next k || rC k (is.flatMap It.ids) || rC k (ru s is)) && yx W is then some cs else none
def xe (is:List It)(W:List Nat)(s:St D)(cs:List (List (Lf D))):St D:=
 let p:=fH is cs s.next
 ⟨p.1++((W.map fun t=>(t, .one (.lf .any)))++s.tmps),(p.2.1.map fun q=>(q.1,some q.2))++(((ru s is++is.flatMap It.ids).map fun k=>(k,none))++s.blks),p.2.2⟩
def anf (sh:FU D)(W:List Nat)(s s':St D):Option sh.X:=
 match YW (sh.its s.slot) W s s' with
 | some cs=>sh.dec cs
 | none=>none
def ap3 (S:Sh D)(s:St D)(o:Oper):Option Prop:=
 match o.op with
 | .call c=>(match c.callee,c.args.toList with
  | .builtin .len,[.tmp t]=>(match s.slot t with
   | .one (.lf (.dat d))=>some (S.len d<=9223372036854775807)
   | .one (.lf (.str x))=>some (x.length<=9223372036854775807)
   | .one (.lf (.own l))=>(match s.blk l with
    | some (.row _ d)=>some (S.len d<=9223372036854775807)
    | _=>none)
   | _=>none)
  | _,_=>none)
 | _=>none
def aHT (d:Option Nat)(o:Oper):Bool:=
 match d,o.op with
 | some d, .binOp _ _ (.tmp x) (.const _) _=>Nat.beq x d
 | some d, .binOp _ _ (.const _) (.tmp x) _=>Nat.beq x d
 | _,_=>false
def aci (S:Sh D)(s:St D){R:Type}(k:Tr D R):List Oper->Tr D R
 | []=>k
 | o::r=>(match r.any (aHT o.dst),ap3 S s o with
  | false,some p=> .as p (aci S s k r)
  | _,_=>aci S s k r)
def U_ (T:TypeId->Option Ty)(S:Sh D)(Γ:FuncId->Option (Ct D))(n:Nat)(J:Nat->Option (FU D)):Code->(R:Type)->St D->(Ex->St D->Tr D R)->Tr D R
 | .skip,R,s,K=>K .normal s
 | .region id ops draw,R,s,K=>nV (az7 D R) T S Γ ops n draw ops.toList 0 [] s fun s'=>aci S s' (match J (800000+id)with
  | none=>K .normal s'
  | some sh=>(match anf sh [] s' s' with
   | some x=>K .normal (xe (sh.its s'.slot) [] s' (sh.enc x))
   | none=> .halt (800000+id) s')) ops.toList
 | .seq a b,R,s,K=>
  match J (100000+sV b)with
  | none=>U_ T S Γ n J a R s fun e s=>
   match e with
   | .normal=>U_ T S Γ n J b R s K
   | .exit i=>K (.exit i) s
   | .ret=>K .ret s
  | some sh=> .cut sh.X (U_ T S Γ n J a (sh.X⊕R) s fun e s'=>
   match e with
   | .normal=>(match anf sh (writes a) s s' with
    | some x=> .ret (.inl x)
    | none=> .halt (200000+sV b) s')
   | .exit i=>(K (.exit i) s').map (sh.X⊕R) .inr
   | .ret=>(K .ret s').map (sh.X⊕R) .inr) fun x=>U_ T S Γ n J b R (xe (sh.its s.slot) (writes a) s (sh.enc x)) K
 | .cond c x y,R,s,K=>
  match aH s.slot c with
  | .one (.lf (.bool b))=> .br b (U_ T S Γ n J x R s K) (U_ T S Γ n J y R s K)
  | .one (.lf (.val (.bool true)))=>U_ T S Γ n J x R s K
  | .one (.lf (.val (.bool false)))=>U_ T S Γ n J y R s K
  | .one (.lf (.unk p))=> .unk p (U_ T S Γ n J x R s K) (U_ T S Γ n J y R s K)
  | _=> .halt 2 s
 | .block id b,R,s,K=>U_ T S Γ n J b R s fun e s=>
  match e with
  | .normal=>K .normal s
  | .exit j=>(match Nat.beq j id with
   | true=>K .normal s
   | false=>K (.exit j) s)
  | .ret=>K .ret s
 | .loop b,R,s,K=>
  match J (sV b)with
  | none=>(match J (600000+sV b)with
   | none=> .halt (300000+sV b) s
   | some sh=>Nat.rec (motive:=fun _=>St D->Tr D R) (fun s=> .halt (700000+sV b) s) (fun _ ih s=>U_ T S Γ n J b R s fun e s'=>
    match e with
    | .normal=>ih s'
    | .exit i=>K (.exit i) s'
    | .ret=>K .ret s') (sh.its fun _=> .one (.lf .any)).length s)
  | some sh=>
   match anf sh (writes b) s s with
   | none=> .halt (400000+sV b) s
   | some x0=> .loop sh.X x0 fun x=>U_ T S Γ n J b (sh.X⊕R) (xe (sh.its s.slot) (writes b) s (sh.enc x)) fun e s'=>
    match e with
    | .normal=>(match anf sh (writes b) s s' with
     | some x'=> .ret (.inl x')
     | none=> .halt (500000+sV b) s')
    | .exit i=>(K (.exit i) s').map (sh.X⊕R) .inr
    | .ret=>(K .ret s').map (sh.X⊕R) .inr
 | .exit id,R,s,K=>K (.exit id) s
 | .ret,R,s,K=>K .ret s
 | .scope b,R,s,K=>U_ T S Γ n J b R s K
 | .label _,R,s,K=>K .normal s
 | _,_,s,_=> .halt 3 s
end
section
variable {D:Type}{P:Program}{S:Sh D}{T:TypeId->Option Ty}{Γ:FuncId->Option (Ct D)}{N:Nat->Prop}{w w':World}{w0:Bs}{g0:Nat->Option Value}{n:Nat}
def n_ (S:Sh D)(w0:Bs)(g0:Nat->Option Value)(N:Nat->Prop)(n:Nat)(s:St D)(a:Act)(w:World):Prop:=Holds S w0 g0 N n s.slot s.blk (· < s.next) a w
structure Tidy (g0:Nat->Option Value)(s:St D):Prop where
 slots:∀t,∀l∈(s.slot t).refs,l < s.next
 blks:∀l bk,s.blk l=some bk->l < s.next/\∀r∈bk.refs,r < s.next
 iJ:∀l v,g0 l=some v->l < s.next
theorem YJ {g:Nat->Option Value}:∀{caps:List Nat} {vs:List Value},caps.map g=vs.map some->∀l∈caps,∃u,g l=some u
 | [],_,_,l,hl=>by simp at hl
 | c::cs,[],h,l,hl=>by simp at h
 | c::cs,v::vs,h,l,hl=>by
  simp only[F_,Qdg]at h;rcases yR.1 hl with rfl | hl
  ·exact⟨v,h.1⟩
  ·exact YJ h.2 l hl
theorem Lf.iO {M:Nat->Prop}{g:Nat->Option Value}{x:Lf D}{v:Value}(h:x.Rel S M w g v):∀l∈x.refs,∃u,g l=some u:=by
 cases x<;>simp only[Lf.refs]<;>intro l hl
 case ptr l' o=>simp at hl;subst hl;obtain⟨b,h1,_⟩:=h;exact⟨_,h1⟩
 case own l'=>simp at hl;subst hl;exact⟨_,h⟩
 case opt l' i j sz=>simp at hl;subst hl;obtain⟨b,n,cap,h1,_⟩:=h;exact⟨_,h1⟩
 case fn f caps=>obtain⟨vs,_,h2⟩:=h;exact YJ h2 l hl
 case part l' i j sz f=>simp at hl;subst hl;obtain⟨a,n,cap,h1,_⟩:=h;exact⟨_,h1⟩
 all_goals simp at hl
theorem aZ.iO {M:Nat->Prop}{g:Nat->Option Value}:∀{xs:List (Lf D)} {vs:List Value},aZ S M w g xs vs->∀l∈xs.flatMap Lf.refs,∃u,g l=some u
 | [],_,_,l,hl=>by simp at hl
 | x::xs,v::vs,h,l,hl=>by
  simp only[Qbp,tY]at hl;rcases hl with hl | hl
  ·exact Lf.iO h.1 l hl
  ·exact aZ.iO h.2 l hl
theorem Sv.iO {M:Nat->Prop}{g:Nat->Option Value}{x:Sv D}{v:Value}(h:x.Rel S M w g v):∀l∈x.refs,∃u,g l=some u:=by
 cases x with
 | lf x=>exact Lf.iO h
 | agg xs=>obtain⟨vs,_,hr⟩:=h;exact aZ.iO hr
theorem iI.iO {M:Nat->Prop}{g:Nat->Option Value}:∀{xs:List (Sv D)} {vs:List Value},iI S M w g xs vs->∀l∈xs.flatMap Sv.refs,∃u,g l=some u
 | [],_,_,l,hl=>by simp at hl
 | x::xs,v::vs,h,l,hl=>by
  simp only[Qbp,tY]at hl;rcases hl with hl | hl
  ·exact Sv.iO h.1 l hl
  ·exact iI.iO h.2 l hl
theorem Sl.iO {M:Nat->Prop}{g:Nat->Option Value}{x:Sl D}{v:Value}(h:x.Rel S M w g v):∀l∈x.refs,∃u,g l=some u:=by
 cases x with
 | one x=>exact Sv.iO h
 | xx xs=>obtain⟨vs,_,hr⟩:=h;exact iI.iO hr
theorem aac {s:St D}{a:Act}(h:n_ S w0 g0 N n s a w):Tidy g0 s:=by
 obtain⟨g,hp,hs,hn,hdf,hm⟩:=h;refine⟨fun t l hl=> ?_,fun l bk hb=>⟨?_,fun r hr=> ?_⟩,fun l v hl=>hp.al l v (hm l v hl)⟩
 ·obtain⟨u,hu⟩:=Sl.iO (hs t) l hl;exact hp.al l u hu
 ·obtain⟨v,hv,_⟩:=hp.dH l bk hb;exact hp.al l v hv
 ·obtain⟨v,hv,hok⟩:=hp.dH l bk hb;cases bk with
  | cells cs=>
   obtain⟨b,vs,t,_,_,_,hr'⟩:=hok;obtain⟨u,hu⟩:=aZ.iO hr' r hr;exact hp.al r u hu
  | row e d=>simp[Bk.refs]at hr
  | wE d=>simp[Bk.refs]at hr
  | iter s p=>simp[Bk.refs]at hr
  | map kvs=>simp[Bk.refs]at hr
  | tc t cs=>
   obtain⟨b,vs,_,_,_,hr'⟩:=hok;obtain⟨u,hu⟩:=aZ.iO hr' r hr;exact hp.al r u hu
theorem MQ:∀{l:List Nat},Uw l=true->l.Nodup
 | [],_=>Qeg
 | x::r,h=>by
  simp only[Uw,jY,Qbi]at h;exact List.nodup_cons.2 ⟨fun hm=>by rw[gX.2 hm]at h;simp at h,MQ h.2⟩
theorem Jk {x:Nat}{l:List Nat}(h:rC x l=false):x∉l:=fun hm=>by rw[gX.2 hm]at h;cases h
theorem qf {α:Type}(d:α)(a b:List (Nat×α))(l:Nat):look d (a++b) l=if l∈a.map (·.1)then look d a l else look d b l:=by
 induction a with
 | nil=>simp
 | cons p r ih=>
  obtain⟨k,v⟩:=p;simp only[Qbu,look];by_cases h:l=k
  ·subst h;simp
  ·have:¬(l.beq k=true):=fun e=>h (Qa e)
   rw[qC this,qC this,ih];have:(l∈((k,v)::r).map (·.1)) ↔ l∈r.map (·.1):=by simp[h]
   simp only[this]
theorem aok {W:List Nat}{t:Nat}(h:t∈W):look (.one (.lf .any)) (W.map fun t=>(t,(.one (.lf .any):Sl D))) t= .one (.lf .any):=by
 induction W with
 | nil=>simp at h
 | cons x r ih=>
  simp only[F_,look];split
  ·rfl
  ·rename_i hx;rcases yR.1 h with rfl | h
   ·simp at hx
   ·exact ih h
theorem am_ {W:List Nat}{t:Nat}(h:t∈W):look none (W.map fun t=>(t,(none:Option (Bk D)))) t=none:=by
 induction W with
 | nil=>simp at h
 | cons x r ih=>
  simp only[F_,look];split
  ·rfl
  ·rename_i hx;rcases yR.1 h with rfl | h
   ·simp at hx
   ·exact ih h
theorem UX (b:List (Nat×Sl D))(t:Nat)(d:Sl D):∀(ss:List (Nat×Sl D)),look d (ss++b) t=match Ox ss t with
  | some y=>y
  | none=>look d b t
 | []=>rfl
 | (k,v)::r=>by
  simp only[Qbu,look,Ox];split
  ·rfl
  ·exact UX b t d r
theorem U7 (b:List (Nat×Option (Bk D)))(l:Nat):∀(bs:List (Nat×Bk D)),look none ((bs.map fun q=>(q.1,some q.2))++b) l=match jW bs l with
  | some bk=>some bk
  | none=>look none b l
 | []=>rfl
 | (k,v)::r=>by
  simp only[F_,Qbu,look,jW];by_cases h:k=l
  ·subst h;simp
  ·have h1:¬(l.beq k=true):=fun e=>h (Qa e).symm
   have h2:¬(k.beq l=true):=fun e=>h (Qa e)
   rw[qC h1,qC h2];exact U7 b l r
theorem nZ {W:List Nat}:∀{is:List It} {cs:List (List (Lf D))} {nx:Nat},yx W is=true->∀t y,(t,y)∈(fH is cs nx).1->t∈W
 | [],cs,nx,_,t,y,h=>by simp[fH]at h
 | i::is,[],nx,_,t,y,h=>by cases i<;>simp[fH]at h
 | .slot t' agg own::is,c::cs,nx,hw,t,y,h=>by
  simp only[yx,jY]at hw;simp only[fH]at h;rcases yR.1 h with h | h
  ·injection h with h1 _
   rw[h1];exact gX.1 hw.1
  ·exact nZ hw.2 t y h
 | .cells l own::is,c::cs,nx,hw,t,y,h=>by
  simp only[fH]at h;exact nZ qcj t y h
 | .row l e::is,c::cs,nx,hw,t,y,h=>by
  simp only[fH]at h;exact nZ qcj t y h
 | .iter l::is,c::cs,nx,hw,t,y,h=>by
  simp only[fH]at h;exact nZ qcj t y h
 | .tcs l t' own::is,c::cs,nx,hw,t,y,h=>by
  simp only[fH]at h;exact nZ qcj t y h
 | .ab9 l::is,c::cs,nx,hw,t,y,h=>by
  simp only[fH]at h;exact nZ qcj t y h
theorem D8 {is:List It}{W:List Nat}{s s':St D}{cs:List (List (Lf D))}(h:YW is W s s'=some cs):yx W is=true:=by
 unfold YW at h;split at h
 ·cases h
 ·split at h
  ·rename_i hc;simp only[jY]at hc;exact hc.2
  ·cases h
theorem QG (hS:jd S){is:List It}{W:List Nat}{s s':St D}{cs cs':List (List (Lf D))}{a:Act}(ht:Tidy g0 s)(h:n_ S w0 g0 N n s' a w)(hpre:∃pre,s'.blks=pre++s.blks)(hfr:∀t,t∉W->s'.slot t=s.slot t)
  (ha:YW is W s s'=some cs) (hl:agd S cs cs'):n_ S w0 g0 N n (xe is W s cs') a w:=by
 obtain⟨g,hp,hs,hn,hdf,hm⟩:=h;unfold YW at ha;split at ha
 ·cases ha
 ·rename_i cs0 mv hab;split at ha
  ·rename_i hc;injection ha with ha
   subst ha;simp only[jY]at hc;obtain⟨⟨⟨⟨c1,c2⟩,c3⟩,c4⟩,c5⟩:=hc;have c1:=MQ c1;have c2:∀p∈mv,(s.next<=p.1\/p.1∈ru s is)/\p.1∉is.flatMap It.ids:=fun p hp=>by
    have:=MX.1 c2 p hp;simp only[jY,Qbt,Qbi]at this;refine⟨?_,Jk this.2⟩;rcases this.1 with q | q
    ·exact .inl (Qa2 q)
    ·exact .inr (gX.1 q)
   have c3:∀l∈is.flatMap It.ids,l < s.next:=fun l hl=>by
    have:=MX.1 c3 l hl;simpa[Gf]using this
   have c4:∀k∈Qm s s',s.next<=k\/k∈is.flatMap It.ids\/k∈ru s is:=fun k hk=>by
    have:=MX.1 c4 k hk;simp only[Qbt]at this;rcases this with(q | q) | q
    ·exact .inl (Qa2 q)
    ·exact .inr (.inl (gX.1 q))
    ·exact .inr (.inr (gX.1 q))
   obtain⟨pre,hpre⟩:=hpre;have hkeys:Qm s s'=pre.map (·.1):=by
    unfold Qm;rw[hpre];simp
   have aIz:∀l,l < s.next->l∉ru s is->l∉mv.map (·.1):=fun l h1 h2 hm'=>by
    obtain⟨p,hp',rfl⟩:=Ik.1 hm';rcases(c2 p hp').1 with q | q
    ·omega
    ·exact h2 q
   let Ad:Nat->Sl D:=fun t=>if t∈W then .one (.lf .any)else s.slot t
   let Ef:Nat->Option (Bk D):=fun l=>if l∈ru s is++is.flatMap It.ids then none else s.blk l
   have hbs:∀t,Ad t= .one (.lf .any)\/(s'.slot t=Ad t/\∀l∈(Ad t).refs,l < s.next):=fun t=>by
    by_cases hw:t∈W
    ·exact .inl (Qb hw)
    ·have e:Ad t=s.slot t:=qC hw;rw[e];exact .inr ⟨hfr t hw,ht.slots t⟩
   have hbb:∀l bk,Ef l=some bk->l < s.next/\s'.blk l=some bk/\(∀r∈bk.refs,r < s.next)/\l∉mv.map (·.1):=fun l bk hb=>by
    by_cases hin:l∈ru s is++is.flatMap It.ids
    ·have:Ef l=none:=Qb hin;rw[this]at hb;cases hb
    ·have e:Ef l=s.blk l:=qC hin;rw[e]at hb;simp only[tY,not_or]at hin;obtain⟨q1,q2⟩:=ht.blks l bk hb;refine⟨q1,?_,q2,aIz l q1 hin.1⟩;have hno:l∉pre.map (·.1):=fun hk=>by
      rw[<-hkeys]at hk;rcases c4 l hk with q | q | q
      ·omega
      ·exact hin.2 q
      ·exact hin.1 q
     show look none s'.blks l=some bk
     rw[hpre,qf,qC hno];exact hb
   obtain⟨g',hp',hs',hg'⟩:=acj (slot:=s'.slot) (val:=fun t=>a.tmps.getD t undef) (nx:=s.next) hS hp hs hab hl (Prod.eta _).symm c1
    (fun l hl=>⟨c3 l hl,fun hm'=>by
     obtain⟨p,hp',rfl⟩:=Ik.1 hm';exact(c2 p hp').2 hl⟩) hbs hbb
   have e1:(xe is W s cs').blk=rZ (fH is cs' s.next).2.1 Ef:=by
    funext l;show look none ((fH is cs' s.next).2.1.map (fun q=>(q.1,some q.2))++_) l=_
    rw[U7];unfold rZ;split
    ·rename_i bk hbk;rw[hbk]
    ·rename_i hbk;rw[hbk];dsimp only;rw[qf,Qc2];have:(fun p:Nat×Option (Bk D)=>p.1)∘(fun k:Nat=>(k,(none:Option (Bk D))))=id:=rfl;rw[this,Qej];by_cases hin:l∈ru s is++is.flatMap It.ids
     ·rw[Qb hin,am_ hin];exact(Qb hin).symm
     ·rw[qC hin];exact(qC hin).symm
   have e2:(xe is W s cs').slot=U6 (fH is cs' s.next).1 Ad:=by
    funext t;show look _ ((fH is cs' s.next).1++_) t=_
    rw[UX];unfold U6;split
    ·rename_i y hy;rw[hy]
    ·rename_i hy;rw[hy];dsimp only;rw[qf,Qc2];have:(fun p:Nat×Sl D=>p.1)∘(fun t:Nat=>(t,(.one (.lf .any):Sl D)))=id:=rfl;rw[this,Qej];by_cases hin:t∈W
     ·rw[Qb hin,aok hin];exact(Qb hin).symm
     ·rw[qC hin];exact(qC hin).symm
   refine⟨g',?_,?_,hn,hdf,fun l v hl=>(hg' l (ht.iJ l v hl)).trans (hm l v hl)⟩
   ·rw[e1];exact hp'
   ·rw[e1,e2];exact hs'
  ·cases ha
theorem Tz {is:List It}{W:List Nat}{s:St D}{cs:List (List (Lf D))}:∃pre,(xe is W s cs).blks=pre++s.blks:=⟨_,(Qba _ _ _).symm⟩
theorem Nk {is:List It}{W:List Nat}{s:St D}{cs:List (List (Lf D))}(hw:yx W is=true){t:Nat}(h:t∉W):(xe is W s cs).slot t=s.slot t:=by
 show look _ ((fH is cs s.next).1++_) t=look _ s.tmps t
 rw[qf,qC,qf,qC]
 ·rw[Qc2];have:(fun p:Nat×Sl D=>p.1)∘(fun t:Nat=>(t,(.one (.lf .any):Sl D)))=id:=rfl;rw[this,Qej];exact h
 ·intro hm;obtain⟨⟨t',y⟩,hty,rfl⟩:=Ik.1 hm;exact h (nZ hw t' y hty)
theorem afK {id:Nat}{ops:Array Oper}{draw:Bool}{s:St D}{τ:Type 1}{A:Alg τ}{den:τ->Prop}(hA:VJ A den){K:St D->τ}{a:Act}{Q:Exit->Act->World->Prop}(hmx:P.follows .mixedOrders=true)(hTy:∀t ty,T t=some ty->fU P t ty)(hΓ:∀f ct,Γ f=some ct->fV P S f ct)(hS:jd S)
  (hd:(!draw || xM ops)=true) (hv:den (nV A T S Γ ops n draw ops.toList 0 [] s K)) (h:n_ S w0 g0 N n s a w)
  (hQ:∀s' a' w',n_ S w0 g0 N n s' a' w'->(∃pre,s'.blks=pre++s.blks)->(∀t,t∉ops.toList.filterMap (·.dst)->s'.slot t=s.slot t)->den (K s')->Q .normal a' w'):(Code.region id ops draw).wp P Q a w:=by
 obtain⟨Ws,s',htr,h1,h2,h3,h4,h5,h6,h7⟩:=XD hA _ _ _ _ hv;simp only[Nat.mul_zero,MB]at htr;have hlen:ops.toList.length=ops.size:=by simp
 have hno:∀t,t∉ops.toList.filterMap (·.dst)->s'.slot t=s.slot t:=fun t ht=>by
  have:∀o∈ops.toList,o.dst≠some t:=fun o ho e=>ht (Qdd.2 ⟨o,ho,e⟩)
  exact h7 t this this
 have fin:∀a w,Holds S w0 g0 N n (BX s.slot Ws) (FX s.blk Ws) (· < s.next+64*ops.size) a w->Q .normal a w:=by
  intro a w hh;refine hQ s' a w ?_ h6 hno h4;unfold n_;rw[h2,h3,hlen,BZ];exact hh.alike h1
 cases draw with
 | false=>
  refine wp_region ?_;rw[List.range_eq_range',<-hlen];exact adf hTy hΓ hS ops.toList Ws 0 s.next s.slot s.blk a w (fun j=>by simp) htr h (by rw[hlen];exact fin)
 | true=>
  have hd:xM ops=true:=by simpa using hd
  exact ade hmx hTy hΓ hS hd htr (agu (h5 rfl)) h fin
theorem t_ {a b c:List (Nat×Option (Bk D))}(h1:∃p,b=p++a)(h2:∃p,c=p++b):∃p,c=p++a:=by
 obtain⟨p,rfl⟩:=h1;obtain⟨q,rfl⟩:=h2;exact⟨q++p,by simp⟩
theorem Ey {sh:FU D}{W:List Nat}{s s':St D}{x:sh.X}(hsh:qN S sh)(h:anf sh W s s'=some x):∃cs,YW (sh.its s.slot) W s s'=some cs/\agd S cs (sh.enc x):=by
 unfold anf at h;split at h
 ·rename_i cs hcs;exact⟨cs,hcs,hsh.ok cs x h⟩
 ·cases h
theorem yJ {X R:Type}:∀a b:R,(Sum.inr a:X⊕R)= .inr b->a=b:=fun a b h=>by injection h
theorem agf {s:St D}{a:Act}(h:n_ S w0 g0 N n s a w){o:Oper}{p:Prop}(hl:ap3 S s o=some p):p:=by
 obtain⟨g,hp,hs,_⟩:=h;unfold ap3 at hl;split at hl
 ·split at hl
  ·rename_i t _ _;have ht:=hs t;split at hl
   ·rename_i d hd;injection hl with hl
    subst hl;rw[hd]at ht;exact dA.ah5 ht
   ·rename_i x hx;injection hl with hl
    subst hl;rw[hx]at ht;exact ht.2
   ·rename_i l hx;split at hl
    ·rename_i e d hb;injection hl with hl
     subst hl;obtain⟨v,_,hok⟩:=hp.dH l _ hb;exact hok.1.2.1
    ·cases hl
   ·cases hl
  ·cases hl
 ·cases hl
theorem MV {s:St D}{a:Act}(h:n_ S w0 g0 N n s a w){R:Type}{k:Tr D R}{e0 r0:R}:∀(ops:List Oper),(aci S s k ops).run e0=some r0->k.run e0=some r0
 | [],hk=>hk
 | o::r,hk=>by
  unfold aci at hk;split at hk
  ·rename_i p _ hp;simp only[Tr.run]at hk;rw[x_ (agf h hp)]at hk;exact MV h r hk
  ·exact MV h r hk
theorem Vl {J:Nat->Option (FU D)}(hJ:∀i sh,J i=some sh->qN S sh)(hmx:P.follows .mixedOrders=true)(hTy:∀t ty,T t=some ty->fU P t ty)(hΓ:∀f ct,Γ f=some ct->fV P S f ct)(hS:jd S):
  ∀(c:Code) (R:Type) (s:St D) (K:Ex->St D->Tr D R) (e0 r0:R) (Q:Exit->Act->World->Prop) (a:Act) (w:World),qU c=true->(U_ T S Γ n J c R s K).run e0=some r0->n_ S w0 g0 N n s a w->
   (∀e s' a' w',n_ S w0 g0 N n s' a' w'->(∃pre,s'.blks=pre++s.blks)->(∀t,t∉writes c->s'.slot t=s.slot t)->(K e s').run e0=some r0->Q (aHP e) a' w')->c.wp P Q a w:=by
 intro c;induction c with
 | skip=>intro R s K e0 r0 Q a w _ hv h hQ;exact wp_skip (hQ .normal s a w h ⟨[],rfl⟩ (fun _ _=>rfl) hv)
 | region id ops draw=>
  intro R s K e0 r0 Q a w hd hv h hQ;refine afK (den:=fun t:Tr D R=>t.run e0=some r0) (asU e0 r0) hmx hTy hΓ hS hd hv h fun s' a' w' h' h1 h2 hk=> ?_;have hk:=MV h' _ hk;split at hk
  ·exact hQ .normal s' a' w' h' h1 h2 hk
  ·rename_i sh hsh;split at hk
   ·rename_i x hx;obtain⟨cs,q1,q2⟩:=Ey (hJ _ sh hsh) hx;exact hQ .normal _ a' w' (QG hS (aac h') h' ⟨[],rfl⟩ (fun _ _=>rfl) q1 q2) (t_ h1 Tz) (fun t ht=>(Nk (D8 q1) oJ).trans (h2 t ht)) hk
   ·cases hk
 | seq x y ihx ihy=>
  intro R s K e0 r0 Q a w hd hv h hQ;simp only[qU,jY]at hd;simp only[U_]at hv;have hw:∀{t:Nat},t∉writes (.seq x y)->t∉writes x/\t∉writes y:=fun{t} ht=>by
   simp only[writes,tY,not_or]at ht;exact ht
  split at hv
  ·refine wp_seq (ihx R s _ e0 r0 _ a w hd.1 hv h fun e s' a' w' h' h1 h2 hk=> ?_);cases e with
   | normal=>exact ihy R s' K e0 r0 Q a' w' hd.2 hk h' fun e s2 a2 w2 k k1 k2 k3=>hQ e s2 a2 w2 k (t_ h1 k1) (fun t ht=>(k2 t (hw ht).2).trans (h2 t (hw ht).1)) k3
   | exit i=>exact hQ (.exit i) s' a' w' h' h1 (fun t ht=>h2 t (hw ht).1) hk
   | ret=>exact hQ .ret s' a' w' h' h1 (fun t ht=>h2 t (hw ht).1) hk
  ·rename_i sh hsh;have hok:=hJ _ sh hsh;have ht:=aac h;rcases Rt hv with⟨x0,hv1,hv2⟩ | hv1
   ·refine wp_seq (ihx _ s _ _ _ _ a w hd.1 hv1 h fun e s' a' w' h' h1 h2 hk=> ?_);cases e with
    | normal=>
     dsimp only at hk;split at hk
     ·rename_i x1 hx1;injection hk with hk
      injection hk with hk
      subst hk;obtain⟨cs,q1,q2⟩:=Ey hok hx1;refine ihy R _ K e0 r0 Q a' w' hd.2 hv2 (QG hS ht h' h1 h2 q1 q2) fun e s2 a2 w2 k k1 k2 k3=>hQ e s2 a2 w2 k (t_ Tz k1) (fun t ht=>(k2 t (hw ht).2).trans (Nk (D8 q1) (hw ht).1)) k3
     ·cases hk
    | exit i=>
     obtain⟨r,q,_⟩:=Tr.run_map _ _ _ yJ _ _ hk;cases q
    | ret=>
     obtain⟨r,q,_⟩:=Tr.run_map _ _ _ yJ _ _ hk;cases q
   ·refine wp_seq (ihx _ s _ _ _ _ a w hd.1 hv1 h fun e s' a' w' h' h1 h2 hk=> ?_);cases e with
    | normal=>
     dsimp only at hk;split at hk
     ·injection hk with hk;cases hk
     ·cases hk
    | exit i=>
     obtain⟨r,q,hr⟩:=Tr.run_map _ _ _ yJ _ _ hk;injection q with q
     subst q;exact hQ (.exit i) s' a' w' h' h1 (fun t ht=>h2 t (hw ht).1) hr
    | ret=>
     obtain⟨r,q,hr⟩:=Tr.run_map _ _ _ yJ _ _ hk;injection q with q
     subst q;exact hQ .ret s' a' w' h' h1 (fun t ht=>h2 t (hw ht).1) hr
 | cond c x y ihx ihy=>
  intro R s K e0 r0 Q a w hd hv h hQ;simp only[qU,jY]at hd;simp only[U_]at hv;have hh:=h;obtain⟨g,hp,hs,_⟩:=h;have hc:=oG hs c;have X:=fun hv=>ihx R s K e0 r0 Q a w hd.1 hv hh fun e s' a' w' h' h1 h2 hk=>hQ e s' a' w' h' h1 (fun t ht=>h2 t (by simp only[writes,tY,not_or]at ht;exact ht.1)) hk
  have Y:=fun hv=>ihy R s K e0 r0 Q a w hd.2 hv hh fun e s' a' w' h' h1 h2 hk=>hQ e s' a' w' h' h1 (fun t ht=>h2 t (by simp only[writes,tY,not_or]at ht;exact ht.2)) hk
  split at hv
  ·rename_i b hb;rw[hb]at hc;cases b with
   | true=>exact wp_cond_true hc (X hv)
   | false=>exact wp_cond_false hc (Y hv)
  ·rename_i hb;rw[hb]at hc;exact wp_cond_true hc (X hv)
  ·rename_i hb;rw[hb]at hc;exact wp_cond_false hc (Y hv)
  ·rename_i p hb;rw[hb]at hc;obtain⟨b,hvb,hpb⟩:=hc;obtain⟨_,q1,q2⟩:=Xm hv;cases b with
   | true=>exact wp_cond_true hvb (X (q1 hpb))
   | false=>exact wp_cond_false hvb (Y (q2 hpb))
  ·cases hv
 | scope b ih=>
  intro R s K e0 r0 Q a w hd hv h hQ;refine wp_scope_straight (ih R s K e0 r0 _ a w hd hv h fun e s' a' w' h' h1 h2 hk=> ?_);cases e with
  | normal=>exact hQ .normal s' a' w' h' h1 h2 hk
  | exit j=>exact hQ (.exit j) s' a' w' h' h1 h2 hk
  | ret=>exact hQ .ret s' a' w' h' h1 h2 hk
 | label l=>intro R s K e0 r0 Q a w _ hv h hQ;exact wp_label (hQ .normal s a w h ⟨[],rfl⟩ (fun _ _=>rfl) hv)
 | block id b ih=>
  intro R s K e0 r0 Q a w hd hv h hQ;refine wp_block (ih R s _ e0 r0 _ a w hd hv h fun e s' a' w' h' h1 h2 hk=> ?_);cases e with
  | normal=>exact hQ .normal s' a' w' h' h1 h2 hk
  | exit j=>
   simp only at hk;show Exit.inBlock id Q (.exit j) a' w'
   simp only[Exit.inBlock];split at hk
   ·rename_i hj;rw[Qb (Qa hj)];exact hQ .normal s' a' w' h' h1 h2 hk
   ·rename_i hj;rw[qC (by rintro rfl;simp at hj)];exact hQ (.exit j) s' a' w' h' h1 h2 hk
  | ret=>exact hQ .ret s' a' w' h' h1 h2 hk
 | loop b ih=>
  intro R s K e0 r0 Q a w hd hv h hQ;simp only[U_]at hv;split at hv
  ·split at hv
   ·cases hv
   rename_i shu _;generalize hk:(shu.its fun _=> .one (.lf .any)).length=k at hv;refine wp_loop_ghost (fun m a w=>∃s',(Nat.rec (motive:=fun _=>St D->Tr D R) (fun s=> .halt (700000+sV b) s) (fun _ ih s=>U_ T S Γ n J b R s fun e s'=>
    match e with
    | .normal=>ih s'
    | .exit i=>K (.exit i) s'
    | .ret=>K .ret s') m s':Tr D R).run e0=some r0/\n_ S w0 g0 N n s' a w/\(∃pre,s'.blks=pre++s.blks)/\∀t,t∉writes b->s'.slot t=s.slot t) k ⟨s,hv,h,⟨[],rfl⟩,fun _ _=>rfl⟩ ?_
   rintro m a w ⟨s1,hr,hh,hp1,hs1⟩;cases m with
   | zero=>cases hr
   | succ m=>
    refine ih _ _ _ _ _ _ a w hd hr hh fun e s' a' w' h' h1 h2 hk=> ?_;cases e with
    | normal=>exact⟨m,by omega,s',hk,h',t_ hp1 h1,fun t ht=>(h2 t ht).trans (hs1 t ht)⟩
    | exit i=>exact hQ (.exit i) s' a' w' h' (t_ hp1 h1) (fun t ht=>(h2 t ht).trans (hs1 t ht)) hk
    | ret=>exact hQ .ret s' a' w' h' (t_ hp1 h1) (fun t ht=>(h2 t ht).trans (hs1 t ht)) hk
  rename_i sh hsh;have hok:=hJ _ sh hsh;have ht:=aac h;split at hv
  ·cases hv
  rename_i x0 hx0;obtain⟨cs0,q1,q2⟩:=Ey hok hx0;have hsl:=D8 q1;obtain⟨m0,hm0⟩:=wF hv;refine wp_loop_ghost (fun m a w=>∃x,oW _ m x=some r0/\n_ S w0 g0 N n (xe (sh.its s.slot) (writes b) s (sh.enc x)) a w) m0 ⟨x0,hm0,QG hS ht h ⟨[],rfl⟩ (fun _ _=>rfl) q1 q2⟩ ?_;rintro m a w ⟨x,hx,hh⟩;cases m with
  | zero=>simp[oW]at hx
  | succ m=>
   have back:∀s':St D,(∃pre,s'.blks=pre++(xe (sh.its s.slot) (writes b) s (sh.enc x)).blks)->∃pre,s'.blks=pre++s.blks:=fun s' h1=>t_ Tz h1
   have aus:∀s':St D,(∀t,t∉writes b->s'.slot t=(xe (sh.its s.slot) (writes b) s (sh.enc x)).slot t)->∀t,t∉writes b->s'.slot t=s.slot t:=fun s' h2 t ht=>(h2 t ht).trans (Nk hsl ht)
   unfold oW at hx;split at hx
   ·cases hx
   ·rename_i x' hstep;refine ih _ _ _ _ _ _ a w hd hstep hh fun e s' a' w' h' h1 h2 hk=> ?_;cases e with
    | normal=>
     dsimp only at hk;split at hk
     ·rename_i x1 hx1;injection hk with hk
      injection hk with hk
      subst hk;obtain⟨cs,k1,k2⟩:=Ey hok hx1;exact⟨m,by omega,_,hx,QG hS ht h' (back s' h1) (aus s' h2) k1 k2⟩
     ·cases hk
    | exit i=>
     obtain⟨r,q,_⟩:=Tr.run_map _ _ _ yJ _ _ hk;cases q
    | ret=>
     obtain⟨r,q,_⟩:=Tr.run_map _ _ _ yJ _ _ hk;cases q
   ·rename_i r1 hstep;injection hx with hx
    subst hx;refine ih _ _ _ _ _ _ a w hd hstep hh fun e s' a' w' h' h1 h2 hk=> ?_;cases e with
    | normal=>
     dsimp only at hk;split at hk
     ·injection hk with hk;cases hk
     ·cases hk
    | exit i=>
     obtain⟨r,q,hr⟩:=Tr.run_map _ _ _ yJ _ _ hk;injection q with q
     subst q;exact hQ (.exit i) s' a' w' h' (back s' h1) (aus s' h2) hr
    | ret=>
     obtain⟨r,q,hr⟩:=Tr.run_map _ _ _ yJ _ _ hk;injection q with q
     subst q;exact hQ .ret s' a' w' h' (back s' h1) (aus s' h2) hr
 | exit id=>intro R s K e0 r0 Q a w _ hv h hQ;exact wp_exit (hQ (.exit id) s a w h ⟨[],rfl⟩ (fun _ _=>rfl) hv)
 | ret=>intro R s K e0 r0 Q a w _ hv h hQ;exact wp_ret (hQ .ret s a w h ⟨[],rfl⟩ (fun _ _=>rfl) hv)
 | _=>intro R s K e0 r0 Q a w _ hv;cases hv
end
end Go.Vc

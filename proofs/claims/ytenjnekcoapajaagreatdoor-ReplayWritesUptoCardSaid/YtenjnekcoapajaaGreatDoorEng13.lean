/- Own engine: Vef, Vde. -/
import Derived.Test.YtenjnekcoapajaaGreatDoorEng12
set_option linter.unusedVariables false
set_option linter.unusedSimpArgs false
namespace Go.Vc
open Go.RowKit
inductive qX (α:Type) where
 | leaf
 | node (v:Option α) (l r:qX α)
section
variable {α:Type}
def qX.v:qX α->Option α
 | .leaf=>none
 | .node v _ _=>v
def qX.l:qX α->qX α
 | .leaf=> .leaf
 | .node _ l _=>l
def qX.r:qX α->qX α
 | .leaf=> .leaf
 | .node _ _ r=>r
noncomputable def qX.get (t:qX α):Nat->Option α:=
 qX.rec (motive:=fun _=>Nat->Option α) (fun _=>none) (fun v _ _ b a n=>Bool.rec (motive:=fun _=>Option α) (Bool.rec (motive:=fun _=>Option α) (a (Nat.div n 2)) (b (Nat.div n 2)) (Nat.beq (Nat.mod n 2) 0)) v (Nat.beq n 0)) t
noncomputable def qX.set (k:Nat):qX α->Nat->α->qX α:=
 Nat.rec (motive:=fun _=>qX α->Nat->α->qX α) (fun t _ _=>t) (fun _ a t n x=>qX.rec (motive:=fun _=>qX α)
  (Bool.rec (motive:=fun _=>qX α) (Bool.rec (motive:=fun _=>qX α) (.node none .leaf (a .leaf (Nat.div n 2) x)) (.node none (a .leaf (Nat.div n 2) x) .leaf) (Nat.beq (Nat.mod n 2) 0)) (.node (some x) .leaf .leaf) (Nat.beq n 0))
  (fun v l r _ _=>Bool.rec (motive:=fun _=>qX α) (Bool.rec (motive:=fun _=>qX α) (.node v l (a r (Nat.div n 2) x)) (.node v (a l (Nat.div n 2) x) r) (Nat.beq (Nat.mod n 2) 0)) (.node (some x) l r) (Nat.beq n 0)) t) k
theorem qX.get_eq (t:qX α)(n:Nat):t.get n=cond (Nat.beq n 0) t.v (cond (Nat.beq (n % 2) 0) (t.l.get (n / 2)) (t.r.get (n / 2))):=by
 cases t with
 | leaf=>
  show none=_
  cases Nat.beq n 0<;>cases Nat.beq (n % 2) 0<;>rfl
 | node v l r=>
  show Bool.rec (motive:=fun _=>Option α) (Bool.rec (motive:=fun _=>Option α) (r.get (n / 2)) (l.get (n / 2)) (Nat.beq (n % 2) 0)) v (Nat.beq n 0)=cond (Nat.beq n 0) v (cond (Nat.beq (n % 2) 0) (l.get (n / 2)) (r.get (n / 2)))
  cases Nat.beq n 0<;>cases Nat.beq (n % 2) 0<;>rfl
theorem qX.agZ (k:Nat)(t:qX α)(n:Nat)(x:α):qX.set (k+1) t n x=cond (Nat.beq n 0) (.node (some x) t.l t.r) (cond (Nat.beq (n % 2) 0) (.node t.v (qX.set k t.l (n / 2) x) t.r) (.node t.v t.l (qX.set k t.r (n / 2) x))):=by
 cases t with
 | leaf=>
  show Bool.rec (motive:=fun _=>qX α) (Bool.rec (motive:=fun _=>qX α) (.node none .leaf (qX.set k .leaf (n / 2) x)) (.node none (qX.set k .leaf (n / 2) x) .leaf) (Nat.beq (n % 2) 0)) (.node (some x) .leaf .leaf) (Nat.beq n 0)=_
  cases Nat.beq n 0<;>cases Nat.beq (n % 2) 0<;>rfl
 | node v l r=>
  show Bool.rec (motive:=fun _=>qX α) (Bool.rec (motive:=fun _=>qX α) (.node v l (qX.set k r (n / 2) x)) (.node v (qX.set k l (n / 2) x) r) (Nat.beq (n % 2) 0)) (.node (some x) l r) (Nat.beq n 0)=_
  cases Nat.beq n 0<;>cases Nat.beq (n % 2) 0<;>rfl
theorem Yo (n m:Nat):(Nat.beq n m=true/\n=m)\/(Nat.beq n m=false/\n≠m):=by
 cases h:Nat.beq n m with
 | true=>simp_all
 | false=>exact .inr ⟨rfl,fun e=>by simp_all⟩
theorem qX.agQ (v:Option α)(l r:qX α)(n:Nat):(qX.node v l r).get n=cond (Nat.beq n 0) v (cond (Nat.beq (n % 2) 0) (l.get (n / 2)) (r.get (n / 2))):=qX.get_eq _ _
theorem qX.aBe:∀(k:Nat) (t:qX α) (n m:Nat) (x:α),n < 2 ^ k->(qX.set (k+1) t n x).get m=if m=n then some x else t.get m:=by
 intro k;induction k with
 | zero=>
  grind [get_eq,agQ,agZ,Yo]
 | succ k a=>
  intro t n m x h;rw[qX.agZ,qX.get_eq t m]
  grind [agQ,Yo]
end
section
variable {α:Type}
noncomputable def V_ (d:α)(t:qX α)(n:Nat):α:=
 match t.get n with
 | some x=>x
 | none=>d
noncomputable def auF (t:qX α)(n:Nat)(x:α):Option (qX α):=cond (Nat.blt n 1099511627776) (some (qX.set 41 t n x)) none
noncomputable def ald:qX α->List (Nat×α)->Option (qX α)
 | t,[]=>some t
 | t,(n,x)::r=>(match auF t n x with
  | none=>none
  | some t=>ald t r)
noncomputable def ahp:Nat->List α->Option (qX α)
 | _,[]=>some .leaf
 | i,x::a=>(match ahp (i+1) a with
  | none=>none
  | some t=>auF t i x)
theorem Ls {d:α}{t a:qX α}{n:Nat}{x:α}(h:auF t n x=some a):V_ d a=upd (V_ d t) n x:=by
 unfold auF at h;cases b:Nat.blt n 1099511627776 with
 | false=>grind
 | true=>
  rw[b]at h;injection h with h
  subst h;rw[Qcp]at b;funext m;unfold V_ upd
  grind [qX.aBe]
theorem NG {d:α}:∀{b:List (Nat×α)} {t a:qX α},ald t b=some a->V_ d a=jc (V_ d t) b
 | [],t,a,h=>by injection h with h;subst h;rfl
 | (n,x)::r,t,a,h=>by
  unfold ald at h;split at h
  ·cases h
  ·rename_i t1 c;rw[NG h,Ls c];rfl
end
section
variable {D:Type}
theorem awm:∀{a:List (Sl D)} {i:Nat} {t:qX (Sl D)},ahp i a=some t->V_ (.one (.lf .any)) t=look (.one (.lf .any)) (adW i a)
 | [],i,t,h=>by injection h with h;subst h;rfl
 | x::a,i,t,h=>by
  unfold ahp at h;split at h
  ·cases h
  ·rename_i t1 b;rw[Ls h,awm b];exact(zU _ _ _ _).symm
theorem auz:∀{a:List (Bk D)} {i:Nat} {t:qX (Option (Bk D))},ahp i (a.map some)=some t->V_ none t=look none (xg i a)
 | [],i,t,h=>by injection h with h;subst h;rfl
 | x::a,i,t,h=>by
  unfold List.map ahp at h;split at h
  ·cases h
  ·rename_i t1 b;rw[Ls h,auz b];exact(zU _ _ _ _).symm
structure Kt (D:Type) where
 s:St D
 sl:qX (Sl D)
 bl:qX (Option (Bk D))
noncomputable def Qn:Rep D (Kt D):=⟨Kt.s,fun k=>V_ (.one (.lf .any)) k.sl,fun k=>V_ none k.bl,fun k c v a=>
 match ald k.bl a,c with
 | none,_=>none
 | some b,none=>some ⟨k.s.put none v a,k.sl,b⟩
 | some b,some d=>(match auF k.sl d v with
  | none=>none
  | some e=>some ⟨k.s.put (some d) v a,e,b⟩),fun k n=>⟨⟨k.s.tmps,k.s.blks,k.s.next+n⟩,k.sl,k.bl⟩,fun k=>V_ (.one (.lf .any)) k.sl=k.s.slot/\V_ none k.bl=k.s.blk⟩
theorem MI:aal (Qn (D:=D)):=by
 refine⟨fun h=>h.1,fun h=>h.2,fun{k g f v j} a h=> ?_,fun a=>⟨a,rfl⟩⟩;dsimp only[Qn]at h a⊢;split at h
 ·cases h
 ·rename_i e b;injection h with h
  subst h;exact⟨⟨by rw[Aj];exact a.1,by rw[Ff,NG b,a.2];rfl⟩,rfl⟩
 ·rename_i e d b;split at h
  ·cases h
  ·rename_i i c;injection h with h
   subst h;exact⟨⟨by rw[Aj,Ls c,a.1];rfl,by rw[Ff,NG b,a.2];rfl⟩,rfl⟩
noncomputable def Kt.init (args:List (Sl D))(a:List (Bk D)):Option (Kt D):=
 match ahp 0 args,ahp 0 (a.map some)with
 | some c,some b=>some ⟨St.init args a,c,b⟩
 | _,_=>none
theorem ay3 {args:List (Sl D)}{a:List (Bk D)}{k:Kt D}(h:Kt.init args a=some k):Qn.ok k/\k.s=St.init args a:=by
 unfold Kt.init at h;split at h
 ·rename_i d e b c;injection h with h
  subst h;exact⟨⟨awm b,auz c⟩,rfl⟩
 ·cases h
inductive Got (X:Type):Type 1 where
 | no
 | got (x:X)
def aGE (X:Type):Alg (Got X):=⟨.no,fun p k=>cond p.b k .no,fun b t e=>cond b t e⟩
theorem axL {X:Type}(x:X):Ha (aGE X) (· = .got x):=by
 refine⟨(fun h=>by cases h),fun{p k} h=> ?_,fun{b t e} h=> ?_⟩
 ·have h:cond p.b k .no= .got x:=h
  grind [DP.h]
 ·have h:cond b t e= .got x:=h
  grind
abbrev Ru (D:Type):=Kt D->Option (Ex×Kt D)
noncomputable def acS (T:TypeId->Option Ty)(S:Sh D)(c:FuncId->Option (Ct D))(n:Nat)(a:Array Oper)(b:Bool):Ru D:=fun k=>
 match mi Qn (aGE (Kt D)) T S c a n b a.toList 0 [] k .got with
 | .no=>none
 | .got k=>some (.normal,k)
noncomputable def CX (f:Nat->Kt D->Option (Ex×Kt D))(a b:Ru D):Ru D:=fun k=>
 match a k with
 | none=>none
 | some (e,k)=>(match e with
  | .normal=>b k
  | .exit i=>f i k
  | .ret=>some (.ret,k))
noncomputable def Nk (e:Ex):Ru D:=fun k=>some (e,k)
noncomputable def auG:Ru D:=fun _=>none
noncomputable def as6 (c:Operand)(x y:Ru D):Ru D:=fun k=>
 match aP (Qn.slot k) c with
 | .one (.lf (.bool b))=>cond b (x k) (y k)
 | .one (.lf (.val (.bool b)))=>cond b (x k) (y k)
 | _=>none
noncomputable def amL (m:Nat)(b:Ru D):Ru D:=Nat.rec (motive:=fun _=>Ru D) auG (fun _ a=>CX (fun i=>Nk (.exit i)) b a) m
noncomputable def Nw (T:TypeId->Option Ty)(S:Sh D)(e:FuncId->Option (Ct D))(n m:Nat)(c:Code):Ru D:=
 Code.rec (motive:=fun _=>Ru D) (Nk .normal) (fun _ ops d=>acS T S e n ops d) (fun _ _ a b=>CX (fun i=>Nk (.exit i)) a b) (fun c _ _ x y=>as6 c x y)
  (fun id _ b=>CX (fun j k=>some (cond (Nat.beq j id) .normal (.exit j),k)) b (Nk .normal)) (fun _ b=>amL m b) (fun _ _ _ _ _ _=>auG)
  (fun id=>Nk (.exit id)) (fun _ b=>CX (fun i k=>cond (Nat.blt i 1000000) (some (.exit i,k)) none) b (Nk .normal)) (fun _=>Nk .normal) (fun l=>Nk (.exit (1000000+l))) (Nk .ret) (fun _=>auG) c
noncomputable def hops (r:Ru D)(l:Nat)(m:Nat):Option (Ex×Kt D)->Option (Ex×Kt D):=
 Nat.rec (motive:=fun _=>Option (Ex×Kt D)->Option (Ex×Kt D)) (fun _=>none) (fun _ a x=>match x with
  | none=>none
  | some (e,k)=>(match e with
   | .normal=>some (.normal,k)
   | .exit i=>cond (Nat.beq i (1000000+l)) (a (r k)) (cond (Nat.blt i 1000000) (some (.exit i,k)) none)
   | .ret=>some (.ret,k))) m
noncomputable def aFS (T:TypeId->Option Ty)(S:Sh D)(d:FuncId->Option (Ct D))(n m:Nat)(c:Code):Ru D:=fun k=>
 match c with
 | .seq a (.scope b)=>(match restOf b with
  | some (l,r)=>(match Nw T S d n m a k with
   | some (.normal,k)=>hops (Nw T S d n m r) l m (Nw T S d n m b k)
   | x=>x)
  | none=>Nw T S d n m c k)
 | c=>Nw T S d n m c k
end
section
variable {D:Type}{P:Program}{S:Sh D}{T:TypeId->Option Ty}{Γ:FuncId->Option (Ct D)}{N:Nat->Prop}{w0:Bs}{g0:Nat->Option Value}{n m:Nat}
def BO (S:Sh D)(c:Bs)(d:Nat->Option Value)(N:Nat->Prop)(n:Nat)(s0:St D)(k:Kt D)(a:Act)(w:World):Prop:=Qn.ok k/\HoldsSt S c d N n k.s a w/\∃b,k.s.blks=b++s0.blks
theorem Wl (W:P.follows .mixedOrders=true)(U:∀t X,T t=some X->TyOk P t X)(Y:∀f V,Γ f=some V->CtOk P S f V)(hS:ShOk S)(s0:St D):∀(c:Code),drawsOk c=true->∀{k q:Kt D} {e:Ex} {a:Act} {w:World} {Q:Exit->Act->World->Prop},Nw T S Γ n m c k=some (e,q)->BO S w0 g0 N n s0 k a w->
  (∀H I,BO S w0 g0 N n s0 q H I->Q (exOf e) H I)->c.wp P Q a w:=by
 intro c;induction c with
 | skip=>intro _ k q e a w Q h p o;injection h with h;injection h with d C;subst d C;exact wp_skip (o _ _ p)
 | ret=>intro _ k q e a w Q h p o;injection h with h;injection h with d C;subst d C;exact wp_ret (o _ _ p)
 | label l=>intro _ k q e a w Q h p o;injection h with h;injection h with d C;subst d C;exact wp_label (o _ _ p)
 | exit id=>intro s k q e a w Q h p o;injection h with h;injection h with d C;subst d C;exact wp_exit (ex_small s▸o _ _ p)
 | goto l=>intro _ k q e a w Q h p o;injection h with h;grind [ex_goto,wp_goto]
 | region id ops R=>
  intro s k q e a w Q h p o;have h:acS T S Γ n ops R k=some (e,q):=h;unfold acS at h;split at h
  ·cases h
  ·rename_i E d;injection h with h;injection h with v u;subst v u
   refine Xb MI p.1 (axL E) W U Y hS s d p.2.1 fun s' H I h' p' _ Z=> ?_;obtain⟨o1,B⟩:=Z;injection B with B
   subst B;exact o H I ⟨o1,h',pre_trans p.2.2 p'⟩
 | seq x y L O=>
  intro s k q e a w Q h p o;simp only[drawsOk,iZ]at s;have h:CX (fun i=>Nk (.exit i)) (Nw T S Γ n m x) (Nw T S Γ n m y) k=some (e,q):=h;unfold CX at h;split at h
  ·cases h
  ·rename_i B E d;refine wp_seq (L s.1 d p fun a1 A r=> ?_);cases B with
   | normal=>exact O s.2 h r o
   | exit i=>injection h with h;grind [then_ex]
   | ret=>injection h with h;injection h with v u;subst v u;exact o a1 A r
 | cond c x y L O=>
  intro s k q e a w Q h p o;simp only[drawsOk,iZ]at s;have h:as6 c (Nw T S Γ n m x) (Nw T S Γ n m y) k=some (e,q):=h;unfold as6 at h;rw[MI.slot p.1]at h;obtain⟨g,_,hs,_⟩:=p.2.1;have J:=mD hs c;have G:∀b:Bool,a.eval c= .bool b->cond b (Nw T S Γ n m x k) (Nw T S Γ n m y k)=some (e,q)->(Code.cond c x y).wp P Q a w:=fun b z h=>by
   grind [wp_cond_false,wp_cond_true]
  split at h
  ·rename_i b z;have z:aP k.s.slot c= .one (.lf (.bool b)):=z;rw[z]at J;exact G b J h
  ·rename_i b z;have z:aP k.s.slot c= .one (.lf (.val (.bool b))):=z;rw[z]at J;exact G b J h
  ·cases h
 | block id b F=>
  intro s k q e a w Q h p o;simp only[drawsOk,iZ]at s;have h:CX (fun j k=>some (cond (Nat.beq j id) .normal (.exit j),k)) (Nw T S Γ n m b) (Nk .normal) k=some (e,q):=h;unfold CX at h;split at h
  ·cases h
  ·rename_i B E d;refine wp_block (F s.2 d p fun a1 A r=> ?_);cases B with
   | normal=>injection h with h;injection h with v u;subst v u;exact o a1 A r
   | exit j=>
    injection h with h;injection h with v u;subst v u
    cases K:Nat.beq j id with
    | true=>
     have aa:=Qa K;subst aa;rw[K]at o;rw[ex_small s.1];simp only[Exit.inBlock,if_true];exact o a1 A r
    | false=>rw[K]at o;exact adi (by rintro rfl;simp at K) (o a1 A r)
   | ret=>injection h with h;injection h with v u;subst v u;exact o a1 A r
 | scope b F=>
  intro s k q e a w Q h p o;have h:CX (fun i k=>cond (Nat.blt i 1000000) (some (.exit i,k)) none) (Nw T S Γ n m b) (Nk .normal) k=some (e,q):=h;unfold CX at h;split at h
  ·cases h
  ·rename_i B E d;refine wp_scope_straight (F s d p fun a1 A r=> ?_);cases B with
   | exit i=>
    dsimp only at h;cases z:Nat.blt i 1000000 with
    | true=>
     rw[z]at h;injection h with h;injection h with v u;subst v u
     have:=o a1 A r;rw[ex_small z]at this⊢;exact this
    | false=>grind
   | _=>injection h with h;injection h with v u;subst v u;exact o a1 A r
 | loop b F=>
  intro s k q e a w Q h p o;have h:amL m (Nw T S Γ n m b) k=some (e,q):=h;refine wp_loop_ghost (fun j a w=>∃E,amL j (Nw T S Γ n m b) E=some (e,q)/\BO S w0 g0 N n s0 E a w) m ⟨k,h,p⟩ ?_;rintro j a w ⟨E,d,r⟩;cases j with
  | zero=>cases d
  | succ j=>
   have d:CX (fun i=>Nk (.exit i)) (Nw T S Γ n m b) (amL j (Nw T S Γ n m b)) E=some (e,q):=d;unfold CX at d;split at d
   ·cases d
   ·rename_i e2 k2 C;refine F s C r fun a2 w2 M=> ?_;cases e2 with
    | normal=>exact⟨j,by omega,k2,d,M⟩
    | exit i=>injection d with d;grind [then_ex]
    | ret=>injection d with d;injection d with v u;subst v u;exact o a2 w2 M
 | _=>intro _ k q e a w Q h;cases h
theorem ayX (F:P.follows .mixedOrders=true)(B:∀t G,T t=some G->TyOk P t G)(K:∀f E,Γ f=some E->CtOk P S f E)(M:ShOk S){s0:St D}{c r:Code}{l j:Nat}(V:restOf c=some (l,r))(O:drawsOk c=true){k q:Kt D}{e:Ex}{a:Act}{w:World}{Q:Exit->Act->World->Prop}
  (C:hops (Nw T S Γ n m r) l j (Nw T S Γ n m c k)=some (e,q)) (W:BO S w0 g0 N n s0 k a w) (Z:∀h o,BO S w0 g0 N n s0 q h o->Q (exOf e) h o):(Code.scope c).wp P Q a w:=by
 let I:=fun(j:Nat) (a:Act) (w:World)=>∃g,hops (Nw T S Γ n m r) l j (Nw T S Γ n m r g)=some (e,q)/\BO S w0 g0 N n s0 g a w
 have L:∀(d:Code) (y:drawsOk d=true) (j:Nat) (v:Kt D) (a:Act) (w:World),hops (Nw T S Γ n m r) l j (Nw T S Γ n m d v)=some (e,q)->BO S w0 g0 N n s0 v a w->d.wp P (Exit.jump l (fun a w=>∃s,s < j/\I s a w) Q) a w:=by
  intro d y j v a w b H;cases j with
  | zero=>cases b
  | succ j=>
   cases z:Nw T S Γ n m d v with
   | none=>rw[z]at b;cases b
   | some p=>
    obtain⟨U,g⟩:=p;rw[z]at b;refine Wl F B K M s0 d y z H fun h o x=> ?_;cases U with
    | exit i=>
     have b:cond (Nat.beq i (1000000+l)) (hops (Nw T S Γ n m r) l j (Nw T S Γ n m r g)) (cond (Nat.blt i 1000000) (some (.exit i,g)) none)=some (e,q):=b;cases u:Nat.beq i (1000000+l)with
     | true=>
      rw[u]at b;have u:=Qa u;subst u;rw[ex_goto];exact⟨rfl,j,by omega,g,b,x⟩
     | false=>
      grind [jump_ex]
    | _=>
     injection b with b;injection b with Y X;subst Y X
     exact Z h o x
 refine wp_scope_ghost l I (restOf_find V) (wp_mono (L c O j k a w C W) fun e h o A=> ?_) fun j a w hI=> ?_
 ·cases e with
  | goto l'=>
   obtain⟨R,s,_,J⟩:=A;exact⟨R,s,J⟩
  | _=>exact A
 grind [restOf_writes]
theorem ax0 (h:P.follows .mixedOrders=true)(g:∀t B,T t=some B->TyOk P t B)(j:∀f z,Γ f=some z->CtOk P S f z)(q:ShOk S){s0:St D}{c:Code}(v:drawsOk c=true){k E:Kt D}{e:Ex}{a:Act}{w:World}{Q:Exit->Act->World->Prop}(d:aFS T S Γ n m c k=some (e,E))(u:BO S w0 g0 N n s0 k a w)
  (s:∀A C,BO S w0 g0 N n s0 E A C->Q (exOf e) A C):c.wp P Q a w:=by
 unfold aFS at d;split at d
 ·rename_i x b;split at d
  ·rename_i l r G;have p:=v;simp only[drawsOk,iZ]at p;split at d
   ·rename_i I F;exact wp_seq (Wl h g j q s0 x p.1 F u fun a1 y o=>ayX h g j q G p.2 d o s)
   ·rename_i H;refine wp_seq (Wl h g j q s0 x p.1 d u fun a1 y o=> ?_);cases e with
    | normal=>grind
    | exit i=>exact then_ex (s a1 y o)
    | ret=>exact s a1 y o
  ·exact Wl h g j q s0 _ v d u s
 ·exact Wl h g j q s0 _ v d u s
end
end Go.Vc
namespace Go.Vc
open Go.RowKit
section
variable {D:Type}
def amP (a:Nat->Option (Bk D))(l:Nat):List Nat:=
 match a l with
 | some b=>b.refs
 | none=>[]
def Rh (ids:List Nat):Nat->Bool
 | 0=>true
 | n+1=>(match ids[n]? with
  | some l=>Nat.beq l n
  | none=>false) && Rh ids n
def aws (a:List Nat)(b i:Nat):Bool:=Nat.blt i b && !rP i a
def Jp (a:Nat->Option (Bk D))(l:Nat):Option (Bk D):=
 match a l with
 | some b=>if b.refs.all fun r=>(a r).isSome then some b else none
 | none=>none
def aq9 (a:Nat->Option (Bk D)):Nat->Option (Bk D):=Jp (Jp a)
def YR (b:Nat->Option (Bk D))(ids a:List Nat)(c:Nat):List Nat->Nat->List (Nat×Bk D)
 | [],_=>[]
 | l::r,i=>(match aws a c i,b l with
  | false,some d=>(i,d.ren (g_ ids))::YR b ids a c r (i+1)
  | _,_=>YR b ids a c r (i+1))
def aCd (c:Nat->Option (Bk D))(a:List Nat)(b:Nat):List Nat:=(List.range b).filter fun i=>aws a b i && (c i).isSome
def aHO (us:List (Sv D)):Sl D:=
 match us with
 | [u]=> .one u
 | us=> .Dh us
abbrev an3 (D:Type):=Sl D×List (Nat×Bk D)×List Nat
def apZ (T:TypeId->Option Ty)(S:Sh D)(g:List ResultVar)(b:Nat)(f:Nat->Sl D)(c:Nat->Option (Bk D))(d:List (Nat×Option (Bk D))):Option (an3 D):=
 match FZ T S f c g with
 | none=>none
 | some e=>
  let ids:=reach c 5 (mZ (List.range b) (e.flatMap Sv.refs))
  let a:=(d.take (d.length - b)).map (·.1)
  if Rh ids b && allIn ids (e.flatMap Sv.refs) && allIn ids (ids.flatMap (amP c))then
   some (aHO (e.map (Sv.ren (g_ ids))),YR (aq9 c) ids a b ids 0,aCd (aq9 c) a b)
  else none
def ax7 (T:TypeId->Option Ty)(S:Sh D)(b:List ResultVar)(a:Nat)(s:St D):Tr D (an3 D):=
 match apZ T S b a s.slot s.blk s.blks with
 | none=> .halt 605 s
 | some r=> .ret r
theorem adT {T:TypeId->Option Ty}{S:Sh D}{b:List ResultVar}{a:Nat}{s:St D}{c r:an3 D}(h:(ax7 T S b a s).run c=some r):apZ T S b a s.slot s.blk s.blks=some r:=by
 unfold ax7 at h;split at h
 ·cases h
 ·rename_i e d;injection h with h;rw[d,h]
def aCB (T:TypeId->Option Ty)(S:Sh D)(b:List ResultVar)(a:Nat):Ex->St D->Tr D (an3 D)
 | .normal,s=>ax7 T S b a s
 | .ret,s=>ax7 T S b a s
 | .exit _,s=> .halt 604 s
noncomputable def ctU (T:TypeId->Option Ty)(S:Sh D)(f:FuncId->Option (Ct D))(m:Nat)(a:Func):Ct D:=fun args d=>
 if Nat.ble args.length a.ntmps then
  (match Kt.init args d with
  | none=>none
  | some k=>(match aFS T S f a.ntmps m (AA a) k with
   | none=>none
   | some (e,k)=>(match e with
    | .exit _=>none
    | _=>(match apZ T S a.results.toList d.length (Qn.slot k) (Qn.blk k) k.s.blks with
     | none=>none
     | some (r,c,b)=>some (none,r,c,b)))))else none
end
section
variable {D:Type}{P:Program}{S:Sh D}{T:TypeId->Option Ty}{Γ:FuncId->Option (Ct D)}{N:Nat->Prop}{w w':World}{w0:Bs}{g0:Nat->Option Value}{n:Nat}{al:Nat->Prop}{g:Nat->Option Value}{blk:Nat->Option (Bk D)}{ids:List Nat}
theorem Vy:∀{n:Nat},Rh ids n=true->∀i,i < n->ids[i]? =some i
 | 0,_,i,h=>by omega
 | n+1,h,i,c=>by
  simp only[Rh,iZ]at h;by_cases a:i=n
  ·subst a;have:=h.1;split at this
   ·rename_i l b;rw[b,Qa this]
   ·cases this
  ·exact Vy h.2 i aj
theorem alF {f:Nat->Nat}:∀{l:List Nat},(∀x∈l,f x=x)->l.map f=l
 | [],_=>rfl
 | x::r,h=>by rw[Qp,h x jQ,alF fun y a=>h y (by simp[a])]
theorem Lf.Xz {f:Nat->Nat}{x:Lf D}(h:∀l∈x.refs,f l=l):x.ren f=x:=by
 cases x<;>simp only[Lf.ren]<;>simp only[Lf.refs,QZ,forall_eq]at h<;>first | rw[h] | (rw[alF h]) | rfl
theorem H7 {f:Nat->Nat}:∀{a:List (Lf D)},(∀l∈a.flatMap Lf.refs,f l=l)->a.map (Lf.ren f)=a
 | [],_=>rfl
 | x::a,h=>by
  rw[Qp,Lf.Xz fun l hl=>h l qbu,H7 fun l hl=>h l dm]
theorem Bk.Xz {f:Nat->Nat}{a:Bk D}(h:∀l∈a.refs,f l=l):a.ren f=a:=by
 cases a with
 | cells cs=>simp only[Bk.ren];rw[H7 h]
 | tc t cs=>simp only[Bk.ren];rw[H7 h]
 | _=>rfl
theorem WY {c:List Nat}{f:Nat}:∀(r:List Nat) (i k:Nat) (b:Bk D),jM (YR blk ids c f r i) k=some b->∃l a,r[k - i]? =some l/\i<=k/\blk l=some a/\b=a.ren (g_ ids)
 | [],i,k,b,h=>by cases h
 | l::r,i,k,b,h=>by
  have next:jM (YR blk ids c f r (i+1)) k=some b->∃d a,(l::r)[k - i]? =some d/\i<=k/\blk d=some a/\b=a.ren (g_ ids):=fun h=>by
   obtain⟨d,a,j,p,o,n⟩:=WY r (i+1) k b h
   grind
  unfold YR at h;split at h
  ·rename_i a m g;unfold jM at h;split at h
   ·rename_i e;have e:=Qa e;subst e;injection h with h
    exact⟨l,a,by simp,pJ _,g,h.symm⟩
   ·exact next h
  ·exact next h
theorem Yv {l:Nat}{a:Bk D}(h:Jp blk l=some a):blk l=some a:=by
 unfold Jp at h
 grind
theorem anq {l:Nat}{a:Bk D}(h:aq9 blk l=some a):blk l=some a:=Yv (Yv h)
theorem TV {d:Nat->Option (Bk D)}(j:∀i a,d i=some a->∃l c,ids[i]? =some l/\blk l=some c/\a=c.ren (g_ ids)):∀b,aS N d (gc g ids) b->aS N blk g b:=by
 rintro b (n | ⟨i,v,k,o,p⟩)
 ·exact .inl n
 ·obtain⟨a,h,q⟩:=iM k;obtain⟨l,c,m,e,rfl⟩:=j i a h;refine .inr ⟨l,v,?_,by simpa[gc,m]using o,p⟩;rw[e];have:=KX (f:=g_ ids) (some c)
  grind
theorem Hp.named (h:Hp S w0 N blk g al w){p:Nat->Option (Bk D)}(B:ids.Nodup)(c:∀i d,p i=some d->∃l a,ids[i]? =some l/\blk l=some a/\d=a.ren (g_ ids))(H:∀l∈ids,∀d,blk l=some d->∀r∈d.refs,r∈ids):
  Hp S w0 N p (gc g ids) (fun _=>True) w:=by
 have P:∀a:Bk D,hot (some (a.ren (g_ ids)))=true->hot (some a)=true:=fun a K=>by
  have:=KX (f:=g_ ids) (some a)
  grind
 refine⟨h.below,h.hN,?_,?_,fun _ _ _=>trivial,?_,h.gl.mono fun b n=>TV c b n⟩
 ·intro i d e;obtain⟨l,a,k,o,rfl⟩:=c i d e;obtain⟨v,A,x⟩:=h.bY l a o;refine⟨v,by simp[gc,k,A],x.ren (fun F m u T=> ?_) (fun _ b n=>TV c b n) (fun K b n=>(h.mine dm A n).2)⟩
  grind [acm]
 ·intro i j J I b e L z s G C;obtain⟨y,E,R⟩:=iM e;obtain⟨q,t,O⟩:=iM L;obtain⟨l,a,k,o,rfl⟩:=c i y E;obtain⟨F,Q,m,M,rfl⟩:=c j q t;have:=h.sep l F J I b dm dm (by simpa[gc,k]using z) (by simpa[gc,m]using s) G C;subst this;rw[<-EE B k,<-EE B m]
 ·intro i v e;simp only[gc]at e;cases k:ids[i]? with
  | none=>grind
  | some l=>rw[k]at e;exact h.refs l v e
theorem arS {M:Nat->Prop}{b:List (Sv D)}{a:List Value}(h:fP S M w g b a):(aHO b).Rel S M w g (if h:a.toArray.size=1 then a.toArray[0]else .tuple a.toArray):=by
 match b,a,h with
 | [],[],h=>exact⟨[],rfl,trivial⟩
 | [u],[v],h=>exact h.1
 | u::d::b,v::c::a,h=>
  have:¬(v::c::a).toArray.size=1:=by simp
  rw[dif_neg this];exact⟨v::c::a,rfl,h⟩
theorem ajs {s:St D}{a:Act}{I:Func}{c:List (Bk D)}{r:Sl D}{k:List (Nat×Bk D)}{j:List Nat}(O:∀t R,T t=some R->TyOk P t R)(Q:∀l v,g0 l=some v->l < c.length)(aa:∀(l:Nat) (d:Bk D),c[l]? =some d->∀r∈d.refs,r < c.length)
  (o:∃p,s.blks=p++xg 0 c) (h:HoldsSt S w0 g0 N n s a w) (e:apZ T S I.results.toList c.length s.slot s.blk s.blks=some (r,k,j)):
  a.defers=[]/\∃v,(results I a.tmps).run P w= .ok v w/\∃A,More g0 A/\Hp S w0 N (yf k j c) A (fun _=>True) w/\r.Rel S (aS N (yf k j c) A) w A v:=by
 obtain⟨g,U,hs,hn,X,hm⟩:=h;unfold apZ at e;split at e
 ·cases e
 rename_i V M;obtain⟨E,ac,F⟩:=Ed O U hs _ V M;dsimp only at e;split at e
 ·rename_i Y;injection e with e
  injection e with q1 e
  injection e with q2 q3
  simp only[iZ]at Y;obtain⟨⟨x,H⟩,G⟩:=Y;generalize aIi:reach s.blk 5 (mZ (List.range c.length) (V.flatMap Sv.refs))=ids at*;generalize ab:(s.blks.take (s.blks.length - c.length)).map (·.1)=K at*;have C:ids.Nodup:=by
   grind [oG,EH]
  have x:=Vy x;have H:=qM H;have G:=qM G;have z:∀l∈ids,∀d,s.blk l=some d->∀r∈d.refs,r∈ids:=fun l m d J r e=>G r (Qa1.2 ⟨l,m,by simp only[amP,J];exact e⟩)
  obtain⟨p,o⟩:=o;have hil:∀(c:List (Bk D)) (i:Nat),(xg i c).length=c.length:=fun c=>by
   induction c with
   | nil=>intro i;rfl
   | cons b r ih=>intro i;simp[xg,ih]
  have hk:K=p.map (·.1):=by
   simp_all
  have B:∀i d,yf k j c i=some d->∃l W,ids[i]? =some l/\s.blk l=some W/\d=W.ren (g_ ids):=by
   intro i d q;unfold yf at q;split at q
   ·grind [anq,WY]
   ·split at q
    ·rename_i f;have f:=fC.1 f;rw[<-q3]at f;unfold aCd at f;obtain⟨m1,y⟩:=Qbb.1 f;have y:=(Qd1.1 y).1;simp only[aws,iZ,Qbf]at y;have Z:i < c.length:=by grind
     have L:i∉p.map (·.1):=by rw[<-hk];exact KL y.2
     refine⟨i,d,x i Z,?_,(Bk.Xz fun l m=> ?_).symm⟩
     ·show look none s.blks i=some d
      rw[o,qJ,uU L,NH];exact q
     ·exact EE C (x l (aa i d q l m))
    ·cases q
  refine⟨X,if h:E.toArray.size=1 then E.toArray[0]else .tuple E.toArray,?_,gc g ids,fun l v m=> ?_,U.named C B z,?_⟩
  ·unfold results;rw[Sem.run_bind,Qdh,Sem.run_map];change (((Sem.run P (I.results.toList.mapM (Oj a.tmps)) w).andThen fun a w'=>Result.ok a.toArray w').andThen _)=_;simp_all
  ·simp only[gc,x l (Q l v m),Option.bind_some];exact hm l v m
  ·rw[<-q1];refine arS (F.ren (fun l m u hu=> ?_) fun _ b J=>TV B b J);rw[acm (H l m)];exact hu
 ·cases e
theorem Ut {f:Func}{X:Nat->Prop}{s:St D}{a:Act}{e:World}{d:List (Bk D)}{r:Sl D}{c:List (Nat×Bk D)}{b:List Nat}(l:∀t m,T t=some m->TyOk P t m)(o:Hp S ⟨w,X⟩ N (jD d) g (· < d.length) w)(j:∃k,s.blks=k++xg 0 d)(h:HoldsSt S ⟨w,X⟩ g N n s a e)
  (q:apZ T S f.results.toList d.length s.slot s.blk s.blks=some (r,c,b)):a.defers=[]/\∃v,(results f a.tmps).run P e= .ok v e/\∃p i,Ending.returned v= .returned p/\More g i/\Hp S ⟨w,X⟩ N (yf c b d) i (fun _=>True) e/\r.Rel S (aS N (yf c b d) i) e i p:=by
 obtain⟨x,v,z,i,A,y,u⟩:=ajs l o.al o.ang j h q
 grind
theorem aFf {f:FuncId}{e:Func}{m:Nat}(s:P.follows .mixedOrders=true)(h:∀t u,T t=some u->TyOk P t u)(z:∀f o,Γ f=some o->CtOk P S f o)(E:ShOk S)(q:P.funcs[f]? =some e)(B:uS e=true):CtOk P S f (ctU T S Γ m e):=by
 simp only[uS,iZ,Qdp,ne_eq]at B;obtain⟨G,M,A⟩:=B;obtain⟨c,n⟩:=Qbj.1 G;have y:AA e=c:=by simp[AA,n]
 refine⟨fun args w=>by simp[callFunc,q,M,n],fun X N g w args K I p r U Y v l a R=> ?_⟩;unfold ctU at a;split at a
 ·rename_i b;have b:=Qat b;split at a
  ·cases a
  rename_i Z x;obtain⟨V,H⟩:=ay3 x;split at a
  ·cases a
  rename_i L k1 j;split at a
  ·cases a
  ·rename_i W;split at a
   ·cases a
   rename_i r' D C k;injection a with a
   injection a with Q a
   injection a with O a
   injection a with J F
   subst Q O J F;rw[y]at j A;refine calls_of_wp q n (ax0 s h z E (w0:=⟨w,X⟩) (N:=N) (s0:=St.init K I) A j ⟨V,by rw[H];exact BK v l b,by simp_all⟩ fun a' w' d=> ?_);rw[MI.slot d.1,MI.blk d.1]at k;have:=Ut h v d.2.2 d.2.1 k;cases L with
   | exit i=>grind
   | _=>exact this
 ·cases a
def azQ (P:Program)(f:FuncId):Option Func:=
 match P.funcs[f]? with
 | some a=>if uS a then some a else none
 | none=>none
noncomputable def aap (P:Program)(T:TypeId->Option Ty)(S:Sh D)(ext:FuncId->Option (Ct D))(m:Nat):Nat->FuncId->Option (Ct D)
 | 0,_=>none
 | k+1,f=>(match ext f with
  | some b=>(match azQ P f with
   | some a=>some (as9 b (ctU T S (aap P T S ext m k) m a))
   | none=>some b)
  | none=>(match azQ P f with
   | some a=>some (ctU T S (aap P T S ext m k) m a)
   | none=>none))
theorem ak8 {ext:FuncId->Option (Ct D)}{m:Nat}(c:P.follows .mixedOrders=true)(d:∀t l,T t=some l->TyOk P t l)(i:ShOk S)(g:∀f b,ext f=some b->CtOk P S f b):∀(k:Nat) (f:FuncId) (b:Ct D),aap P T S ext m k f=some b->CtOk P S f b
 | 0,f,b,h=>by cases h
 | k+1,f,b,h=>by
  have p:∀e,azQ P f=some e->CtOk P S f (ctU T S (aap P T S ext m k) m e):=fun e a=>by
   unfold azQ at a;split at a
   ·rename_i o n;split at a
    ·rename_i j;injection a with a
     subst a;exact aFf c d (ak8 c d i g k) i n j
    ·cases a
   ·cases a
  grind [acz,aap]
end
end Go.Vc

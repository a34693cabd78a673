/- Own engine: Vef, Vde. -/
import Derived.Test.YtenjjcfebflefaaGreatDoorEng12
set_option linter.unusedVariables false
set_option linter.unusedSimpArgs false
namespace Go.Vc
open Go.RowKit
inductive qA (α:Type) where
 | leaf
 | node (v:Option α) (l r:qA α)
section
variable {α:Type}
def qA.v:qA α->Option α
 | .leaf=>none
 | .node v _ _=>v
def qA.l:qA α->qA α
 | .leaf=> .leaf
 | .node _ l _=>l
def qA.r:qA α->qA α
 | .leaf=> .leaf
 | .node _ _ r=>r
noncomputable def qA.get (t:qA α):Nat->Option α:=
 qA.rec (motive:=fun _=>Nat->Option α) (fun _=>none) (fun v _ _ b a n=>Bool.rec (motive:=fun _=>Option α) (Bool.rec (motive:=fun _=>Option α) (a (Nat.div n 2)) (b (Nat.div n 2)) (Nat.beq (Nat.mod n 2) 0)) v (Nat.beq n 0)) t
noncomputable def qA.set (k:Nat):qA α->Nat->α->qA α:=
 Nat.rec (motive:=fun _=>qA α->Nat->α->qA α) (fun t _ _=>t) (fun _ a t n x=>qA.rec (motive:=fun _=>qA α)
  (Bool.rec (motive:=fun _=>qA α) (Bool.rec (motive:=fun _=>qA α) (.node none .leaf (a .leaf (Nat.div n 2) x)) (.node none (a .leaf (Nat.div n 2) x) .leaf) (Nat.beq (Nat.mod n 2) 0)) (.node (some x) .leaf .leaf) (Nat.beq n 0))
  (fun v l r _ _=>Bool.rec (motive:=fun _=>qA α) (Bool.rec (motive:=fun _=>qA α) (.node v l (a r (Nat.div n 2) x)) (.node v (a l (Nat.div n 2) x) r) (Nat.beq (Nat.mod n 2) 0)) (.node (some x) l r) (Nat.beq n 0)) t) k
theorem qA.get_eq (t:qA α)(n:Nat):t.get n=cond (Nat.beq n 0) t.v (cond (Nat.beq (n % 2) 0) (t.l.get (n / 2)) (t.r.get (n / 2))):=by
 cases t with
 | leaf=>
  show none=_
  cases Nat.beq n 0<;>cases Nat.beq (n % 2) 0<;>rfl
 | node v l r=>
  show Bool.rec (motive:=fun _=>Option α) (Bool.rec (motive:=fun _=>Option α) (r.get (n / 2)) (l.get (n / 2)) (Nat.beq (n % 2) 0)) v (Nat.beq n 0)=cond (Nat.beq n 0) v (cond (Nat.beq (n % 2) 0) (l.get (n / 2)) (r.get (n / 2)))
  cases Nat.beq n 0<;>cases Nat.beq (n % 2) 0<;>rfl
theorem qA.aji (k:Nat)(t:qA α)(n:Nat)(x:α):qA.set (k+1) t n x=cond (Nat.beq n 0) (.node (some x) t.l t.r) (cond (Nat.beq (n % 2) 0) (.node t.v (qA.set k t.l (n / 2) x) t.r) (.node t.v t.l (qA.set k t.r (n / 2) x))):=by
 cases t with
 | leaf=>
  show Bool.rec (motive:=fun _=>qA α) (Bool.rec (motive:=fun _=>qA α) (.node none .leaf (qA.set k .leaf (n / 2) x)) (.node none (qA.set k .leaf (n / 2) x) .leaf) (Nat.beq (n % 2) 0)) (.node (some x) .leaf .leaf) (Nat.beq n 0)=_
  cases Nat.beq n 0<;>cases Nat.beq (n % 2) 0<;>rfl
 | node v l r=>
  show Bool.rec (motive:=fun _=>qA α) (Bool.rec (motive:=fun _=>qA α) (.node v l (qA.set k r (n / 2) x)) (.node v (qA.set k l (n / 2) x) r) (Nat.beq (n % 2) 0)) (.node (some x) l r) (Nat.beq n 0)=_
  cases Nat.beq n 0<;>cases Nat.beq (n % 2) 0<;>rfl
theorem uB (n m:Nat):(Nat.beq n m=true/\n=m)\/(Nat.beq n m=false/\n≠m):=by
 cases h:Nat.beq n m with
 | true=>simp_all
 | false=>exact .inr ⟨rfl,fun e=>by simp_all⟩
theorem qA.ZF (v:Option α)(l r:qA α)(n:Nat):(qA.node v l r).get n=cond (Nat.beq n 0) v (cond (Nat.beq (n % 2) 0) (l.get (n / 2)) (r.get (n / 2))):=qA.get_eq _ _
theorem qA.apm:∀(k:Nat) (t:qA α) (n m:Nat) (x:α),n < 2 ^ k->(qA.set (k+1) t n x).get m=if m=n then some x else t.get m:=by
 intro k;induction k with
 | zero=>
  intro t n m x h;have o:n=0:=by simpa using h
  subst o;rw[qA.aji,qA.get_eq t m];show(qA.node (some x) t.l t.r).get m=_
  rw[qA.ZF];rcases uB m 0 with⟨a,rfl⟩ | ⟨a,c⟩
  ·rfl
  ·rw[a,kT c];rfl
 | succ k j=>
  intro t n m x h;rw[qA.aji,qA.get_eq t m];rcases uB n 0 with⟨a,rfl⟩ | ⟨a,p⟩
  ·rw[a];show(qA.node (some x) t.l t.r).get m=_
   rw[qA.ZF];rcases uB m 0 with⟨a,rfl⟩ | ⟨a,c⟩
   ·rfl
   ·rw[a,kT c];rfl
  ·rw[a];have f:n / 2 < 2 ^ k:=by omega
   rcases uB (n % 2) 0 with⟨c,l⟩ | ⟨c,l⟩<;>rw[c]<;>simp only[jm,cond_true]<;>rw[qA.ZF]
   ·rcases uB m 0 with⟨d,rfl⟩ | ⟨d,i⟩
    ·grind
    ·rw[d];rcases uB (m % 2) 0 with⟨b,g⟩ | ⟨b,g⟩
     ·rw[b];simp only[jm,cond_true];rw[j _ _ _ _ f];by_cases e:m=n
      ·subst e;simp
      ·rw[kT (show ¬m / 2=n / 2 by omega),kT e]
     ·rw[b,kT (show ¬m=n by rintro rfl;omega)];rfl
   ·rcases uB m 0 with⟨d,rfl⟩ | ⟨d,i⟩
    ·grind
    ·rw[d];rcases uB (m % 2) 0 with⟨b,g⟩ | ⟨b,g⟩
     ·rw[b,kT (show ¬m=n by rintro rfl;omega)];rfl
     ·rw[b];simp only[jm,cond_true];rw[j _ _ _ _ f];by_cases e:m=n
      ·subst e;simp
      ·rw[kT (show ¬m / 2=n / 2 by omega),kT e]
end
section
variable {D:Type}
structure Kt (D:Type) where
 s:St D
 sl:qA (Sl D)
 bl:qA (Option (Bk D))
noncomputable def B_ (t:qA (Sl D))(n:Nat):Sl D:=
 match t.get n with
 | some x=>x
 | none=> .one (.lf .any)
noncomputable def CY (t:qA (Option (Bk D)))(n:Nat):Option (Bk D):=
 match t.get n with
 | some x=>x
 | none=>none
noncomputable def ade (t:qA (Sl D))(n:Nat)(x:Sl D):Option (qA (Sl D)):=cond (Nat.blt n 65536) (some (qA.set 17 t n x)) none
noncomputable def aj9:qA (Option (Bk D))->List (Nat×Option (Bk D))->Option (qA (Option (Bk D)))
 | t,[]=>some t
 | t,(n,x)::r=>cond (Nat.blt n 1099511627776) (aj9 (qA.set 41 t n x) r) none
noncomputable def Kt.put (k:Kt D)(a:Option Nat)(v:Sl D)(b:List (Nat×Option (Bk D))):Option (Kt D):=
 match aj9 k.bl b with
 | none=>none
 | some c=>(match a with
  | none=>some ⟨k.s.put a v b,k.sl,c⟩
  | some d=>(match ade k.sl d v with
   | none=>none
   | some e=>some ⟨k.s.put a v b,e,c⟩))
structure DI (k:Kt D):Prop where
 sl:B_ k.sl=k.s.slot
 bl:CY k.bl=k.s.blk
def aC3 (T:TypeId->Option Ty)(S:Sh D)(b:Nat->Option (Bk D))(t:TypeId)(a:Sl D):Option (Out D):=
 match WI T b t a with
 | some c=>some c
 | none=>(match JP T S b t a with
  | some c=>some c
  | none=>BX T S b t a)
def aEL (T:TypeId->Option Ty)(S:Sh D)(e:FuncId->Option (Ct D))(a:Nat->Sl D)(c:Nat->Option (Bk D))(d:Nat)(t:TypeId)(x y:Operand):Option (Out D):=
 match Ox T c t (aG a x) (aG a y)with
 | some b=>some b
 | none=>(match DZ T S c t (aG a x) (aG a y)with
  | some b=>some b
  | none=>(match GV T S c t (aG a x) (aG a y)with
   | some b=>some b
   | none=>xe T S e a c d (.store t x y)))
def aH5 (T:TypeId->Option Ty)(S:Sh D)(c:BinOp)(t:TypeId)(a b:Sl D):Option (Out D):=
 match an4 T S c t a b with
 | some d=>some d
 | none=>z_ (ahZ T S c t a b) (aAM T c t a b)
def aC7 (T:TypeId->Option Ty)(S:Sh D)(d:Nat->Option (Bk D))(t:TypeId)(a b:Sl D):Option (Out D):=
 match adH T t a b with
 | some c=>some c
 | none=>(match UQ T S t a b with
  | some c=>some c
  | none=>JY T S d t a b)
def axD (T:TypeId->Option Ty)(t:TypeId)(a b:Sl D):Option (Out D):=
 match Uw T t a b with
 | some c=>some c
 | none=>(match U0 T t a b with
  | some c=>some c
  | none=>adL T t a b)
def aGY (a:Sl D):Option (Out D):=
 match a with
 | .one (.lf (.ptr l o))=>mM none (.ptr l o)
 | .one (.lf (.elt d i j))=>mM none (.elt d i j)
 | .one (.lf (.opt l i j c))=>mM none (.opt l i j c)
 | .one (.lf (.fn f b))=>mM none (.fn f b)
 | .one (.lf (.xt (.clo f e g)))=>mM none (.xt (.clo f e g))
 | _=>none
def aDe (T:TypeId->Option Ty)(S:Sh D)(c:Nat->Option (Bk D))(s t:TypeId)(a:Sl D):Option (Out D):=
 match YZ T S c s t a with
 | some b=>some b
 | none=>(match aff T S s t a with
  | some b=>some b
  | none=>ao1 T s t a)
def aHg (b:Nat)(a:Sl D):Option (Out D):=
 match a with
 | .one u=>if u.whole then some ⟨none, .one (.lf (.ptr b 0)),[(b,some (.cells u.cells))]⟩else none
 | _=>none
def hFn (e:FuncId->Option (Ct D))(c:Nat->Option (Bk D))(d:Nat)(a:Sl D)(args:List (Sl D)):Option (Out D):=
 match Y9 e c d a args with
 | some g=>some g
 | none=>(match a with
  | .one (.lf (.fn f b))=>if b.all (fun l=>isCells (c l))then JF e f c (args++b.map fun l=> .one (.lf (.ptr l 0))) d else none
  | _=>none)
def aCN (T:TypeId->Option Ty)(S:Sh D)(e:FuncId->Option (Ct D))(a:Nat->Sl D)(b:Nat->Option (Bk D))(d:Nat)(c:Call):Option (Option (Out D)):=
 match c.callee with
 | .value f=>some (hFn e b d (aG a f) (c.args.toList.map (aG a)))
 | .builtin .len=>(match c.args.toList with
  | [x]=>some (aks S T b c.argTypes (aG a x))
  | _=>none)
 | _=>none
def aDN (T:TypeId->Option Ty)(S:Sh D)(j:FuncId->Option (Ct D))(d:Nat->Sl D)(e:Nat->Option (Bk D))(h:Nat)(g:Op):Option (Option (Out D)):=
 match g with
 | .move x=>some (some ⟨none,aG d x,[]⟩)
 | .assign x=>some (some ⟨none,aG d x,[]⟩)
 | .load t x=>some (aC3 T S e t (aG d x))
 | .store t x y=>some (aEL T S j d e h t x y)
 | .fieldAddr t x f=>some (QC T t (aG d x) f)
 | .extract x i=>some (Gi (aG d x) i)
 | .binOp g t x y _=>some (aH5 T S g t (aG d x) (aG d y))
 | .unOp g _ x=>some (xUn g (aG d x))
 | .indexAddr t x i=>some (aC7 T S e t (aG d x) (aG d i))
 | .index t x i=>some (axD T t (aG d x) (aG d i))
 | .nilCheck x=>some (aGY (aG d x))
 | .pick c a b=>some (ag9 d c a b)
 | .convert s t x=>some (aDe T S e s t (aG d x))
 | .box _ x=>some (aHg h (aG d x))
 | .call c=>aCN T S j d e h c
 | _=>none
noncomputable def VO (d:Array Oper)(c:Bool)(o:Oper)(i:Nat)(b:Acc)(k:Kt D)(a:Out D):Option (Acc×Kt D):=
 match okD a.pre with
 | false=>none
 | true=>(match c with
  | false=>(match k.put o.dst a.val a.blks with
   | none=>none
   | some k=>some (b,k))
  | true=>(match agO d b o (dB (B_ k.sl) (CY k.bl) o.op) (a.blks.map (·.1))with
   | true=>none
   | false=>(match k.put o.dst a.val a.blks with
    | none=>none
    | some e=>some ((i,dB (B_ k.sl) (CY k.bl) o.op,a.blks.map (·.1))::b,e))))
noncomputable def as5 (T:TypeId->Option Ty)(S:Sh D)(f:FuncId->Option (Ct D))(c:Array Oper)(a:Bool)(o:Oper)(i:Nat)(d:Acc)(k:Kt D):Option (Acc×Kt D):=
 match FB (B_ k.sl) (CY k.bl) o.op with
 | some (b,g,h)=>VO c a o i d k (cond b g h)
 | none=>(match xy T S f (B_ k.sl) (CY k.bl) (k.s.next+64*i) o.op with
  | none=>none
  | some e=>VO c a o i d k e)
noncomputable def NP (T:TypeId->Option Ty)(S:Sh D)(d:FuncId->Option (Ct D))(b:Array Oper)(a:Bool)(o:Oper)(i:Nat)(c:Acc)(k:Kt D):Option (Acc×Kt D):=
 match aDN T S d (B_ k.sl) (CY k.bl) (k.s.next+64*i) o.op with
 | some r=>(match r with
  | some e=>VO b a o i c k e
  | none=>none)
 | none=>as5 T S d b a o i c k
noncomputable def Wy (c:Array Oper)(b:Bool)(o:Oper)(i:Nat)(a:Acc)(k:Kt D):Option (Acc×Kt D):=
 match b with
 | false=>(match k.put o.dst (.one (.lf (.val undef))) []with
  | none=>none
  | some k=>some (a,k))
 | true=>(match agO c a o (dB (B_ k.sl) (CY k.bl) o.op) []with
  | true=>none
  | false=>(match k.put o.dst (.one (.lf (.val undef))) []with
   | none=>none
   | some d=>some ((i,dB (B_ k.sl) (CY k.bl) o.op,[])::a,d)))
noncomputable def Kt.tell (k:Kt D)(d:Nat)(b:Bool):Option (Kt D):=
 match ade k.sl d (.one (.lf (.val (.bool b))))with
 | none=>none
 | some a=>some ⟨⟨(d, .one (.lf (.val (.bool b))))::k.s.tmps,k.s.blks,k.s.next⟩,a,k.bl⟩
noncomputable def adN (T:TypeId->Option Ty)(S:Sh D)(g:FuncId->Option (Ct D))(c:Array Oper)(a:Bool)(o:Oper)(i:Nat)(e:Acc)(k:Kt D):Option (Acc×Kt D):=
 match o.guard with
 | none=>NP T S g c a o i e k
 | some (j,f)=>(match(c[j]?).bind (·.dst)with
  | none=>none
  | some d=>(match B_ k.sl d with
   | .one (.lf (.bool b))=>(match k.tell d b with
    | none=>none
    | some k=>(match b==f with
     | true=>NP T S g c a o i e k
     | false=>Wy c a o i e k))
   | .one (.lf (.val (.bool b)))=>(match b==f with
    | true=>NP T S g c a o i e k
    | false=>Wy c a o i e k)
   | .one (.lf (.val v))=>(match IU v with
    | true=>Wy c a o i e k
    | false=>none)
   | _=>none))
noncomputable def ag3 (T:TypeId->Option Ty)(S:Sh D)(d:FuncId->Option (Ct D))(c:Array Oper)(n:Nat)(b:Bool):List Oper->Nat->Acc->Kt D->Option (Kt D)
 | [],i,_,k=>some ⟨⟨k.s.tmps,k.s.blks,k.s.next+64*i⟩,k.sl,k.bl⟩
 | o::r,i,a,k=>
  match YR n o.dst with
  | false=>none
  | true=>(match adN T S d c b o i a k with
   | none=>none
   | some (a,k)=>ag3 T S d c n b r (i+1) a k)
noncomputable def Bg (T:TypeId->Option Ty)(S:Sh D)(d:FuncId->Option (Ct D))(n m:Nat):Code->Kt D->Option (Ex×Kt D)
 | .skip,s=>some (.normal,s)
 | .region _ ops f,s=>(match ag3 T S d ops n f ops.toList 0 [] s with
  | none=>none
  | some s=>some (.normal,s))
 | .seq a b,s=>(match Bg T S d n m a s with
  | none=>none
  | some (e,s)=>(match e with
   | .normal=>Bg T S d n m b s
   | .exit i=>some (.exit i,s)
   | .ret=>some (.ret,s)))
 | .cond c x y,s=>(match aG (B_ s.sl) c with
  | .one (.lf (.bool b))=>cond b (Bg T S d n m x s) (Bg T S d n m y s)
  | .one (.lf (.val (.bool b)))=>cond b (Bg T S d n m x s) (Bg T S d n m y s)
  | _=>none)
 | .block id b,s=>(match Bg T S d n m b s with
  | none=>none
  | some (e,s)=>(match e with
   | .normal=>some (.normal,s)
   | .exit j=>(match Nat.beq j id with
    | true=>some (.normal,s)
    | false=>some (.exit j,s))
   | .ret=>some (.ret,s)))
 | .loop b,s=>(match Nat.blt (nG b) 100000 with
  | false=>none
  | true=>Nat.rec (motive:=fun _=>Kt D->Option (Ex×Kt D)) (fun _=>none) (fun _ g s=>match Bg T S d n m b s with
   | none=>none
   | some (e,s)=>(match e with
    | .normal=>g s
    | .exit i=>some (.exit i,s)
    | .ret=>some (.ret,s))) m s)
 | .exit id,s=>some (.exit id,s)
 | .ret,s=>some (.ret,s)
 | .scope b,s=>Bg T S d n m b s
 | .label _,s=>some (.normal,s)
 | _,_=>none
abbrev Ru (D:Type):=Kt D->Option (Ex×Kt D)
noncomputable def aCl:Ru D:=fun s=>some (.normal,s)
noncomputable def aAN (T:TypeId->Option Ty)(S:Sh D)(c:FuncId->Option (Ct D))(n:Nat)(a:Array Oper)(b:Bool):Ru D:=fun s=>
 match ag3 T S c a n b a.toList 0 [] s with
 | none=>none
 | some s=>some (.normal,s)
noncomputable def aEt (a b:Ru D):Ru D:=fun s=>
 match a s with
 | none=>none
 | some (e,s)=>(match e with
  | .normal=>b s
  | .exit i=>some (.exit i,s)
  | .ret=>some (.ret,s))
noncomputable def awZ (c:Operand)(x y:Ru D):Ru D:=fun s=>
 match aG (B_ s.sl) c with
 | .one (.lf (.bool b))=>cond b (x s) (y s)
 | .one (.lf (.val (.bool b)))=>cond b (x s) (y s)
 | _=>none
noncomputable def ajk (id:Nat)(b:Ru D):Ru D:=fun s=>
 match b s with
 | none=>none
 | some (e,s)=>(match e with
  | .normal=>some (.normal,s)
  | .exit j=>(match Nat.beq j id with
   | true=>some (.normal,s)
   | false=>some (.exit j,s))
  | .ret=>some (.ret,s))
noncomputable def aF0 (b a:Ru D):Ru D:=fun s=>
 match b s with
 | none=>none
 | some (e,s)=>(match e with
  | .normal=>a s
  | .exit i=>some (.exit i,s)
  | .ret=>some (.ret,s))
noncomputable def aCF (m:Nat)(c:Code)(b:Ru D):Ru D:=fun s=>
 match Nat.blt (nG c) 100000 with
 | false=>none
 | true=>Nat.rec (motive:=fun _=>Ru D) (fun _=>none) (fun _ a=>aF0 b a) m s
noncomputable def aHR (e:Ex):Ru D:=fun s=>some (e,s)
noncomputable def awl:Ru D:=fun _=>none
noncomputable def evK (T:TypeId->Option Ty)(S:Sh D)(e:FuncId->Option (Ct D))(n m:Nat)(c:Code):Ru D:=
 Code.rec (motive:=fun _=>Ru D) aCl (fun _ ops d=>aAN T S e n ops d) (fun _ _ a b=>aEt a b) (fun c _ _ x y=>awZ c x y) (fun id _ b=>ajk id b) (fun c b=>aCF m c b) (fun _ _ _ _ _ _=>awl)
  (fun id=>aHR (.exit id)) (fun _ b=>b) (fun _=>aCl) (fun _=>awl) (aHR .ret) (fun _=>awl) c
theorem aEb (T:TypeId->Option Ty)(S:Sh D)(d:FuncId->Option (Ct D))(n m:Nat):∀(c:Code) (s:Kt D),evK T S d n m c s=Bg T S d n m c s:=by
 intro c;induction c with
 | seq a b i j=>
  intro s;show aEt (evK T S d n m a) (evK T S d n m b) s=_
  unfold aEt Bg
  grind
 | cond c x y f g=>
  intro s;show awZ c (evK T S d n m x) (evK T S d n m y) s=_
  unfold awZ Bg;rw[f,g]
 | block id b e=>
  intro s;show ajk id (evK T S d n m b) s=_
  unfold ajk Bg;rw[e]
 | loop b e=>
  intro s;show aCF m b (evK T S d n m b) s=_
  have h:evK T S d n m b=Bg T S d n m b:=funext e;rw[h];rfl
 | scope b e=>intro s;exact e s
 | _=>intro s;rfl
noncomputable def Kt.init (args:List (Sl D))(b:List (Bk D)):Option (Kt D):=
 (args.zipIdx.foldl (fun k p=>match k with
  | none=>none
  | some a=>ade a p.2 p.1) (some .leaf)).bind fun a=>(aj9 .leaf (u_ 0 b)).map fun c=>⟨St.init args b,a,c⟩
end
section
variable {D:Type}{S:Sh D}{T:TypeId->Option Ty}{Γ:FuncId->Option (Ct D)}
theorem Zo {t b:qA (Sl D)}{n:Nat}{x:Sl D}(h:ade t n x=some b):B_ b=upd (B_ t) n x:=by
 unfold ade at h;cases a:Nat.blt n 65536 with
 | false=>grind
 | true=>
  rw[a]at h;injection h with h
  subst h;rw[Qcd]at a;funext m;unfold B_ upd;rw[qA.apm 16 t n m x au]
  grind
theorem YM:∀{c:List (Nat×Option (Bk D))} {t a:qA (Option (Bk D))},aj9 t c=some a->CY a=kY (CY t) c
 | [],t,a,h=>by injection h with h;subst h;rfl
 | (n,x)::r,t,a,h=>by
  unfold aj9 at h;cases b:Nat.blt n 1099511627776 with
  | false=>grind
  | true=>
   rw[b]at h;rw[Qcd]at b;have h:aj9 (qA.set 41 t n x) r=some a:=h;rw[YM h];show _=kY (upd (CY t) n x) r
   congr 1;funext m;unfold CY upd;rw[qA.apm 40 t n m x au]
   grind
theorem aeN {k c:Kt D}{b:Option Nat}{v:Sl D}{j:List (Nat×Option (Bk D))}(a:DI k)(h:k.put b v j=some c):DI c/\c.s=k.s.put b v j:=by
 unfold Kt.put at h;split at h
 ·cases h
 ·rename_i e g;have f:=YM g;split at h
  ·injection h with h
   subst h;refine⟨⟨?_,?_⟩,rfl⟩
   ·rw[xw];exact a.sl
   ·rw[Ad];show CY e=_;rw[f,a.bl];rfl
  ·rename_i d;split at h
   ·cases h
   ·rename_i l i;injection h with h
    subst h;refine⟨⟨?_,?_⟩,rfl⟩
    ·rw[xw];show B_ l=_;rw[Zo i,a.sl];rfl
    ·rw[Ad];show CY e=_;rw[f,a.bl];rfl
theorem Hy {e:Array Oper}{a:Bool}{o:Oper}{i:Nat}{f b:Acc}{k l:Kt D}{d:Out D}(c:DI k)(h:VO e a o i f k d=some (b,l)):DI l/\Q_ T S Γ e a o i f k.s d=some (b,l.s):=by
 unfold VO at h;unfold Q_;rw[c.sl,c.bl]at h;split at h
 ·cases h
 ·rename_i q;rw[q];cases a with
  | false=>
   dsimp only at h⊢;split at h
   ·cases h
   ·rename_i r m;injection h with h;injection h with g j;subst g j
    obtain⟨n,s⟩:=aeN c m
    grind
  | true=>
   dsimp only at h⊢;split at h
   ·cases h
   ·rename_i p;rw[p];dsimp only;split at h
    ·cases h
    ·rename_i r m;injection h with h;injection h with g j;subst g j
     obtain⟨n,s⟩:=aeN c m
     grind
theorem aEB {a:Nat->Sl D}{d:Nat->Option (Bk D)}{g:Nat}{b:Op}{r:Option (Out D)}(h:aDN T S Γ a d g b=some r):FB a d b=none/\xy T S Γ a d g b=r:=by
 unfold aDN at h;split at h;all_goals first | (cases h;done) | (injection h with h;subst h;refine⟨rfl,?_⟩) | skip
 ·rfl
 ·rfl
 ·rename_i t x;unfold aC3;simp only[xy,qj,nR,jg,Di,Bi,oL,BF,wH,xe,lh,Qbt,RX,if_false]
  grind
 ·rfl
 ·rename_i t x f;simp only[xy,qj,nR,jg,Di,Bi,oL,BF,wH,xe,lh,Qbt,RX,if_false]
  grind
 ·rename_i x i;simp only[xy,qj,nR,jg,Di,Bi,oL,BF,wH,xe,lh,Qbt,RX,if_false]
  grind
 ·rename_i b t x y k;unfold aH5;simp only[xy,qj,nR,jg,Di,Bi,oL,BF,wH,xe,lh,Qbt,RX,if_false]
  grind
 ·rename_i b t x;simp only[xy,qj,nR,jg,Di,Bi,oL,BF,wH,xe,lh,Qbt,RX,if_false]
  grind
 ·rename_i t x i;unfold aC7;simp only[xy,qj,nR,jg,Di,Bi,oL,BF,wH,xe,lh,Qbt,RX,if_false]
  grind
 ·rename_i t x i;unfold axD;simp only[xy,qj,nR,jg,Di,Bi,oL,BF,wH,xe,lh,Qbt,RX,if_false]
  grind
 ·rename_i x;unfold aGY;simp only[xy,qj,nR,jg,Di,Bi,oL,BF,wH,xe,lh,Qbt,RX,if_false]
  grind
 ·rename_i c x y;simp only[xy,qj,nR,jg,Di,Bi,oL,BF,wH,xe,lh,Qbt,RX,if_false]
  grind
 ·rename_i s t x;unfold aDe;simp only[xy,qj,nR,jg,Di,Bi,oL,BF,wH,xe,lh,Qbt,RX,if_false]
  grind
 ·rename_i t x;unfold aHg;simp only[xy,qj,nR,jg,Di,Bi,oL,BF,wH,xe,lh,Qbt,RX,if_false]
  grind
 ·rename_i c;unfold aCN at h;split at h
  ·rename_i f e;injection h with h
   subst h;refine⟨rfl,?_⟩;unfold hFn;simp only[xy,qj,nR,jg,Di,Bi,oL,BF,wH,xe,lh,Qbt,RX,if_false,e]
   grind
  ·rename_i e;split at h
   ·rename_i x j;injection h with h
    subst h;refine⟨rfl,?_⟩;simp only[xy,qj,nR,jg,Di,Bi,oL,BF,wH,xe,lh,Qbt,RX,if_false,e,j]
    grind
   ·cases h
  ·cases h
theorem ay6 {c:Array Oper}{a:Bool}{o:Oper}{i:Nat}{d:Acc}{s:St D}:(match FB s.slot s.blk o.op with
   | some (b,h,k)=>Q_ T S Γ c a o i d s (cond b h k)
   | none=>(match xy T S Γ s.slot s.blk (s.next+64*i) o.op with
    | none=>none
    | some e=>Q_ T S Γ c a o i d s e))=Eu T S Γ c a o i d s:=by
 unfold Eu;cases a with
 | true=>rfl
 | false=>
  cases j:anj T s.slot s.blk o.op with
  | none=>rfl
  | some v=>
   obtain⟨f,g⟩:=fast_ok (S:=S) (Γ:=Γ) (fr:=s.next+64*i) j;rw[f,g];rfl
theorem DT {d:Array Oper}{b:Bool}{o:Oper}{i:Nat}{e c:Acc}{k f:Kt D}(a:DI k)(h:NP T S Γ d b o i e k=some (c,f)):DI f/\Eu T S Γ d b o i e k.s=some (c,f.s):=by
 rw[<-ay6];unfold NP at h;rw[a.sl,a.bl]at h;split at h
 ·rename_i r m;obtain⟨g,j⟩:=aEB m;rw[g,j];split at h
  ·exact Hy a h
  ·cases h
 ·unfold as5 at h;rw[a.sl,a.bl]at h;split at h
  ·exact Hy a h
  ·split at h
   ·cases h
   ·rename_i n l;first | exact Hy a h | (rw[l];exact Hy a h)
theorem Jb {d:Array Oper}{a:Bool}{o:Oper}{i:Nat}{e b:Acc}{k j:Kt D}(c:DI k)(h:Wy d a o i e k=some (b,j)):DI j/\Ro d a o i e k.s=some (b,j.s):=by
 unfold Wy at h;unfold Ro;rw[c.sl,c.bl]at h;cases a with
 | false=>
  dsimp only at h⊢;split at h
  ·cases h
  ·rename_i m l;injection h with h;injection h with f g;subst f g
   obtain⟨n,q⟩:=aeN c l
   grind
 | true=>
  dsimp only at h⊢;split at h
  ·cases h
  ·rename_i p;rw[p];dsimp only;split at h
   ·cases h
   ·rename_i m l;injection h with h;injection h with f g;subst f g
    obtain⟨n,q⟩:=aeN c l
    grind
theorem aBh {k a:Kt D}{d:Nat}{b:Bool}(c:DI k)(h:k.tell d b=some a):DI a/\a.s=⟨(d, .one (.lf (.val (.bool b))))::k.s.tmps,k.s.blks,k.s.next⟩:=by
 unfold Kt.tell at h;split at h
 ·cases h
 ·rename_i f e;injection h with h
  subst h;refine⟨⟨?_,c.bl⟩,rfl⟩;show B_ f=look _ _
  rw[Zo e,c.sl,wo];rfl
theorem akr {n:Array Oper}{e:Bool}{o:Oper}{i:Nat}{p c:Acc}{k q:Kt D}(a:DI k)(h:adN T S Γ n e o i p k=some (c,q)):DI q/\ae3 T S Γ n e o i p k.s=some (c,q.s):=by
 unfold adN at h;unfold ae3;split at h
 ·rename_i s;rw[s];exact DT a h
 ·rename_i j r s;rw[s];dsimp only;split at h
  ·cases h
  ·rename_i d u;rw[u];dsimp only;rw[a.sl]at h;split at h
   ·rename_i b f;rw[f];dsimp only;split at h
    ·cases h
    ·rename_i x t;obtain⟨g,y⟩:=aBh a t;cases b<;>cases r
     ·obtain⟨m,u2⟩:=DT g h;grind
     ·obtain⟨m,u2⟩:=Jb g h;grind
     ·obtain⟨m,u2⟩:=Jb g h;grind
     ·obtain⟨m,u2⟩:=DT g h;grind
   ·rename_i b f;rw[f];dsimp only;split at h
    ·rename_i l;rw[l];exact DT a h
    ·rename_i l;rw[l];exact Jb a h
   ·rename_i v w f;rw[f];split at h
    ·rename_i l;obtain⟨m,u2⟩:=Jb a h
     grind
    ·cases h
   ·cases h
theorem ahI {e:Array Oper}{n:Nat}{b:Bool}:∀{l:List Oper} {i:Nat} {a:Acc} {k c:Kt D},DI k->ag3 T S Γ e n b l i a k=some c->DI c/\ar9 T S Γ e n b l i a k.s=some c.s
 | [],i,a,k,c,d,h=>by
  injection h with h
  subst h;exact⟨⟨d.sl,d.bl⟩,rfl⟩
 | o::r,i,a,k,c,d,h=>by
  unfold ag3 at h;unfold ar9;split at h
  ·cases h
  ·rename_i f;rw[f];dsimp only;split at h
   ·cases h
   ·rename_i m p j;obtain⟨g,u2⟩:=akr d j;rw[u2];exact ahI g h
theorem aAn {n m:Nat}:∀(c:Code) {k f:Kt D} {e:Ex},DI k->Bg T S Γ n m c k=some (e,f)->DI f/\Y6 T S Γ n m c k.s=some (e,f.s):=by
 intro c;induction c with
 | skip=>intro k f e d h;injection h with h;injection h with g o;subst g o;exact⟨d,rfl⟩
 | region id ops t=>
  intro k f e d h;unfold Bg at h;unfold Y6;split at h
  ·cases h
  ·rename_i E g;injection h with h;injection h with u v;subst u v
   obtain⟨F,u2⟩:=ahI d g
   grind
 | seq a b w B=>
  intro k f e d h;unfold Bg at h;unfold Y6
  grind
 | cond c x y A C=>
  intro k f e d h;unfold Bg at h;unfold Y6;rw[d.sl]at h
  grind
 | block id b p=>
  intro k f e d h;unfold Bg at h;unfold Y6
  grind
 | loop b p=>
  intro k f e d h;unfold Bg at h;unfold Y6;split at h
  ·cases h
  rename_i q;rw[q];dsimp only;have r:∀(j:Nat) (k:Kt D),DI k->(Nat.rec (motive:=fun _=>Kt D->Option (Ex×Kt D)) (fun _=>none) (fun _ p s=>match Bg T S Γ n m b s with
   | none=>none
   | some (e,s)=>(match e with
    | .normal=>p s
    | .exit i=>some (.exit i,s)
    | .ret=>some (.ret,s))) j k)=some (e,f)->DI f/\(Nat.rec (motive:=fun _=>St D->Option (Ex×St D)) (fun _=>none) (fun _ p s=>match Y6 T S Γ n m b s with
   | none=>none
   | some (e,s)=>(match e with
    | .normal=>p s
    | .exit i=>some (.exit i,s)
    | .ret=>some (.ret,s))) j k.s)=some (e,f.s):=by
   intro j;induction j with
   | zero=>simp_all
   | succ j z=>
    grind
  exact r m k d h
 | exit id=>intro k f e d h;injection h with h;injection h with g o;subst g o;exact⟨d,rfl⟩
 | ret=>intro k f e d h;injection h with h;injection h with g o;subst g o;exact⟨d,rfl⟩
 | scope b p=>intro k f e d h;exact p d h
 | label l=>intro k f e d h;injection h with h;injection h with g o;subst g o;exact⟨d,rfl⟩
 | _=>intro k f e d h;cases h
theorem aia:∀(args:List (Sl D)) (i:Nat) (t a:qA (Sl D)),((args.zipIdx i).foldl (fun k p=>match k with
  | none=>none
  | some c=>ade c p.2 p.1) (some t))=some a->∀n,B_ a n=if i<=n/\n < i+args.length then(args[n - i]?).getD (.one (.lf .any))else B_ t n
 | [],i,t,a,h,n=>by
  injection h with h
  grind
 | x::r,i,t,a,h,n=>by
  rw[List.zipIdx_cons,Qde]at h;dsimp only at h;cases b:ade t i x with
  | none=>
   rw[b]at h;have:∀(l:List (Sl D×Nat)),(l.foldl (fun(k:Option (qA (Sl D))) p=>match k with
     | none=>none
     | some c=>ade c p.2 p.1) none)=none:=by
    intro l;induction l with
    | nil=>rfl
    | cons y l e=>exact e
   grind
  | some t1=>
   rw[b]at h;rw[aia r (i+1) t1 a h n,Zo b];simp only[zx];by_cases f:i+1<=n/\n < i+1+r.length
   ·grind
   ·rw[kT f];by_cases d:n=i
    ·subst d;rw[upd_same,nI au];simp
    ·rw[bU _ _ _ _ d,kT au]
theorem YH:∀(args:List (Sl D)) (i n:Nat),look (.one (.lf .any)) (SG i args) n=if i<=n/\n < i+args.length then(args[n - i]?).getD (.one (.lf .any))else .one (.lf .any)
 | [],i,n=>by simp[SG,look]
 | x::r,i,n=>by
  simp only[SG,look,zx];by_cases a:n=i
  ·simp_all
  ·have:¬(n.beq i=true):=fun e=>a (Qa e)
   rw[kT this,YH r (i+1) n]
   grind
theorem abK:∀(a:List (Bk D)) (i:Nat) (f:Nat->Option (Bk D)) (n:Nat),kY f (u_ i a) n=if i<=n/\n < i+a.length then a[n - i]? else f n
 | [],i,f,n=>by
  rw[kT qg];rfl
 | b::r,i,f,n=>by
  show kY (upd f i (some b)) (u_ (i+1) r) n=_
  rw[abK r (i+1) _ n];simp only[zx];by_cases d:i+1<=n/\n < i+1+r.length
  ·grind
  ·rw[kT d];by_cases c:n=i
   ·subst c;rw[upd_same,nI au];simp
   ·rw[bU _ _ _ _ c,kT au]
theorem aBL {args:List (Sl D)}{a:List (Bk D)}{k:Kt D}(h:Kt.init args a=some k):DI k/\k.s=St.init args a:=by
 unfold Kt.init at h;cases d:(args.zipIdx.foldl (fun k p=>match k with
  | none=>none
  | some b=>ade b p.2 p.1) (some (.leaf:qA (Sl D))))with
 | none=>grind
 | some b=>
  rw[d]at h;cases c:aj9 .leaf (u_ 0 a)with
  | none=>grind
  | some f=>
   rw[c]at h;injection h with h
   subst h;refine⟨⟨?_,?_⟩,rfl⟩
   ·funext n;show B_ b n=look _ (SG 0 args) n
    rw[aia args 0 .leaf b d n,YH];rfl
   ·funext n;show CY f n=look none (u_ 0 a) n
    rw[YM c,abK,KJ];simp only[Jd,true_and,zM,if_true];by_cases e:n < a.length
    ·rw[nI e]
    ·rw[kT e,Qd8 au];rfl
end
end Go.Vc
namespace Go.Vc
open Go.RowKit
section
variable {D:Type}
def afn (a:Nat->Option (Bk D))(l:Nat):List Nat:=
 match a l with
 | some b=>b.refs
 | none=>[]
def LM (ids:List Nat):Nat->Bool
 | 0=>true
 | n+1=>(match ids[n]? with
  | some l=>Nat.beq l n
  | none=>false) && LM ids n
def awW (a:List Nat)(b i:Nat):Bool:=Nat.blt i b && !uP i a
def NG (a:Nat->Option (Bk D))(l:Nat):Option (Bk D):=
 match a l with
 | some b=>if b.refs.all fun r=>(a r).isSome then some b else none
 | none=>none
def ahW (a:Nat->Option (Bk D)):Nat->Option (Bk D):=NG (NG a)
def Y0 (b:Nat->Option (Bk D))(ids a:List Nat)(c:Nat):List Nat->Nat->List (Nat×Bk D)
 | [],_=>[]
 | l::r,i=>(match awW a c i,b l with
  | false,some d=>(i,d.ren (jd ids))::Y0 b ids a c r (i+1)
  | _,_=>Y0 b ids a c r (i+1))
def axB (c:Nat->Option (Bk D))(a:List Nat)(b:Nat):List Nat:=(List.range b).filter fun i=>awW a b i && (c i).isSome
def aF7 (us:List (Sv D)):Sl D:=
 match us with
 | [u]=> .one u
 | us=> .wU us
abbrev amm (D:Type):=Sl D×List (Nat×Bk D)×List Nat
def agk (T:TypeId->Option Ty)(S:Sh D)(d:List ResultVar)(b:Nat)(s:St D):Tr D (amm D):=
 match Am T S s d with
 | none=> .halt 603 s
 | some c=>
  let ids:=reach s.blk 5 (mQ (List.range b) (c.flatMap Sv.refs))
  let a:=(s.blks.take (s.blks.length - b)).map (·.1)
  if LM ids b && allIn ids (c.flatMap Sv.refs) && allIn ids (ids.flatMap (afn s.blk))then
   .ret (aF7 (c.map (Sv.ren (jd ids))),Y0 (ahW s.blk) ids a b ids 0,axB (ahW s.blk) a b)
  else .halt 605 s
def att (T:TypeId->Option Ty)(S:Sh D)(b:List ResultVar)(a:Nat):Ex->St D->Tr D (amm D)
 | .normal,s=>agk T S b a s
 | .ret,s=>agk T S b a s
 | .exit _,s=> .halt 604 s
noncomputable def aEo (T:TypeId->Option Ty)(S:Sh D)(a:Nat->Sl D)(c:Nat->Option (Bk D)):ResultVar->Option (Sv D)
 | .tmp t=>(match a t with
  | .one u=>some u
  | _=>none)
 | .cell t b=>(match BX T S c b (a t)with
  | some ⟨none, .one u,_⟩=>some u
  | _=>none)
noncomputable def apb (T:TypeId->Option Ty)(S:Sh D)(b:Nat->Sl D)(a:Nat->Option (Bk D)):List ResultVar->Option (List (Sv D))
 | []=>some []
 | r::c=>(match aEo T S b a r,apb T S b a c with
  | some u,some d=>some (u::d)
  | _,_=>none)
noncomputable def aAB (T:TypeId->Option Ty)(S:Sh D)(d:List ResultVar)(b:Nat)(k:Kt D):Option (amm D):=
 match apb T S (B_ k.sl) (CY k.bl) d with
 | none=>none
 | some c=>
  let ids:=reach (CY k.bl) 5 (mQ (List.range b) (c.flatMap Sv.refs))
  let a:=(k.s.blks.take (k.s.blks.length - b)).map (·.1)
  if LM ids b && allIn ids (c.flatMap Sv.refs) && allIn ids (ids.flatMap (afn (CY k.bl)))then
   some (aF7 (c.map (Sv.ren (jd ids))),Y0 (ahW (CY k.bl)) ids a b ids 0,axB (ahW (CY k.bl)) a b)
  else none
noncomputable def aCj (T:TypeId->Option Ty)(S:Sh D)(b:List ResultVar)(a:Nat):Ex->Kt D->Option (amm D)
 | .normal,s=>aAB T S b a s
 | .ret,s=>aAB T S b a s
 | .exit _,_=>none
theorem az6 {T:TypeId->Option Ty}{S:Sh D}{s:St D}{r:ResultVar}{u:Sv D}(h:aEo T S s.slot s.blk r=some u):YT T S s r=some u:=by
 cases r with
 | tmp t=>exact h
 | cell t a=>
  simp only[aEo]at h;simp only[YT]
  grind
theorem aii {T:TypeId->Option Ty}{S:Sh D}{s:St D}:∀{b:List ResultVar} {a:List (Sv D)},apb T S s.slot s.blk b=some a->Am T S s b=some a
 | [],a,h=>h
 | r::b,a,h=>by
  unfold apb at h;split at h
  ·rename_i u e d c;unfold Am;rw[az6 d,aii c];exact h
  ·cases h
theorem ayy {T:TypeId->Option Ty}{S:Sh D}{a:List ResultVar}{b:Nat}{e:Ex}{k:Kt D}{r:amm D}(f:DI k)(h:aCj T S a b e k=some r):(att T S a b e k.s).go=some r:=by
 have c:aAB T S a b k=some r->(agk T S a b k.s).go=some r:=by
  intro h;unfold aAB at h;unfold agk;rw[f.sl,f.bl]at h;split at h
  ·cases h
  ·rename_i j d;rw[aii d];dsimp only at h⊢;split at h
   ·rename_i g;rw[nI g];exact h
   ·cases h
 cases e with
 | normal=>exact c h
 | ret=>exact c h
 | exit i=>cases h
noncomputable def ctU (T:TypeId->Option Ty)(S:Sh D)(f:FuncId->Option (Ct D))(m:Nat)(a:Func):Ct D:=fun args d=>
 if Nat.ble args.length a.ntmps then
  (match Kt.init args d with
  | none=>none
  | some k=>(match evK T S f a.ntmps m (FH a) k with
   | none=>none
   | some (e,k)=>(match aCj T S a.results.toList d.length e k with
    | none=>none
    | some (r,c,b)=>some (none,r,c,b))))else none
end
section
variable {D:Type}{P:Program}{S:Sh D}{T:TypeId->Option Ty}{Γ:FuncId->Option (Ct D)}{N:Nat->Prop}{w w':World}{w0:Bs}{g0:Nat->Option Value}{n:Nat}{al:Nat->Prop}{g:Nat->Option Value}{blk:Nat->Option (Bk D)}{ids:List Nat}
theorem Wu:∀{n:Nat},LM ids n=true->∀i,i < n->ids[i]? =some i
 | 0,_,i,h=>by omega
 | n+1,h,i,c=>by
  simp only[LM,jA]at h;by_cases a:i=n
  ·subst a;have:=h.1;split at this
   ·rename_i l b;rw[b,Qa this]
   ·cases this
  ·exact Wu h.2 i au
theorem amX {f:Nat->Nat}:∀{l:List Nat},(∀x∈l,f x=x)->l.map f=l
 | [],_=>rfl
 | x::r,h=>by rw[Lj,h x kM,amX fun y a=>h y (by simp[a])]
theorem Lf.ZP {f:Nat->Nat}{x:Lf D}(h:∀l∈x.refs,f l=l):x.ren f=x:=by
 cases x<;>simp only[Lf.ren]<;>simp only[Lf.refs,FY,forall_eq]at h<;>first | rw[h] | (rw[amX h]) | rfl
theorem Ky {f:Nat->Nat}:∀{a:List (Lf D)},(∀l∈a.flatMap Lf.refs,f l=l)->a.map (Lf.ren f)=a
 | [],_=>rfl
 | x::a,h=>by
  rw[Lj,Lf.ZP fun l hl=>h l qcd,Ky fun l hl=>h l qg]
theorem Bk.ZP {f:Nat->Nat}{a:Bk D}(h:∀l∈a.refs,f l=l):a.ren f=a:=by
 cases a with
 | cells cs=>simp only[Bk.ren];rw[Ky h]
 | tc t cs=>simp only[Bk.ren];rw[Ky h]
 | _=>rfl
theorem XB {c:List Nat}{f:Nat}:∀(r:List Nat) (i k:Nat) (b:Bk D),kX (Y0 blk ids c f r i) k=some b->∃l a,r[k - i]? =some l/\i<=k/\blk l=some a/\b=a.ren (jd ids)
 | [],i,k,b,h=>by cases h
 | l::r,i,k,b,h=>by
  have next:kX (Y0 blk ids c f r (i+1)) k=some b->∃e a,(l::r)[k - i]? =some e/\i<=k/\blk e=some a/\b=a.ren (jd ids):=fun h=>by
   obtain⟨e,a,p,m,n,j⟩:=XB r (i+1) k b h
   grind
  unfold Y0 at h;split at h
  ·rename_i a o g;unfold kX at h;split at h
   ·rename_i d;have d:=Qa d;subst d;injection h with h
    exact⟨l,a,by simp,rC _,g,h.symm⟩
   ·exact next h
  ·exact next h
theorem aa6 {l:Nat}{a:Bk D}(h:NG blk l=some a):blk l=some a:=by
 unfold NG at h
 grind
theorem aql {l:Nat}{a:Bk D}(h:ahW blk l=some a):blk l=some a:=aa6 (aa6 h)
theorem WA {d:Nat->Option (Bk D)}(h:∀i c,d i=some c->∃l a,ids[i]? =some l/\blk l=some a/\c=a.ren (jd ids)):∀b,aY N d (gc g ids) b->aY N blk g b:=by
 rintro b (n | ⟨i,v,o,m,k⟩)
 ·exact .inl n
 ·obtain⟨c,j,q⟩:=kN o;obtain⟨l,a,p,e,rfl⟩:=h i c j;refine .inr ⟨l,v,?_,by simpa[gc,p]using m,k⟩;rw[e];have:=Nu (f:=jd ids) (some a)
  grind
theorem Hp.named (h:Hp S w0 N blk g al w){q:Nat->Option (Bk D)}(G:ids.Nodup)(c:∀i d,q i=some d->∃l a,ids[i]? =some l/\blk l=some a/\d=a.ren (jd ids))(p:∀l∈ids,∀d,blk l=some d->∀r∈d.refs,r∈ids):
  Hp S w0 N q (gc g ids) (fun _=>True) w:=by
 have T:∀a:Bk D,hot (some (a.ren (jd ids)))=true->hot (some a)=true:=fun a J=>by
  have:=Nu (f:=jd ids) (some a)
  grind
 refine⟨h.below,h.hN,?_,?_,fun _ _ _=>trivial,?_,h.gl.mono fun b n=>WA c b n⟩
 ·intro i d k;obtain⟨l,a,e,o,rfl⟩:=c i d k;obtain⟨v,t,C⟩:=h.dD l a o;refine⟨v,by simp[gc,e,t],C.ren (fun s m u K=> ?_) (fun _ b n=>WA c b n) (fun J b n=>(h.mine qg t n).2)⟩;rw[adY (p l (Qb8 e) a o s m)];exact K
 ·intro i j L M b k I y B z x;obtain⟨A,F,R⟩:=kN k;obtain⟨H,E,O⟩:=kN I;obtain⟨l,a,e,o,rfl⟩:=c i A F;obtain⟨s,Q,m,P,rfl⟩:=c j H E;have:=h.sep l s L M b qg qg (by simpa[gc,e]using y) (by simpa[gc,m]using B) z x;subst this;rw[<-GU G e,<-GU G m]
 ·intro i v k;simp only[gc]at k;cases e:ids[i]? with
  | none=>grind
  | some l=>rw[e]at k;exact h.refs l v k
theorem atN {M:Nat->Prop}{b:List (Sv D)}{a:List Value}(h:iE S M w g b a):(aF7 b).Rel S M w g (if h:a.toArray.size=1 then a.toArray[0]else .tuple a.toArray):=by
 match b,a,h with
 | [],[],h=>exact⟨[],rfl,trivial⟩
 | [u],[v],h=>exact h.1
 | u::d::b,v::c::a,h=>
  have:¬(v::c::a).toArray.size=1:=by simp
  rw[dif_neg this];exact⟨v::c::a,rfl,h⟩
theorem Xp {s:St D}{a:Act}{G:Func}{c:List (Bk D)}{r:Sl D}{k:List (Nat×Bk D)}{j:List Nat}(Z:∀t O,T t=some O->eP P t O)(Q:∀l v,g0 l=some v->l < c.length)(V:∀(l:Nat) (e:Bk D),c[l]? =some e->∀r∈e.refs,r < c.length)
  (p:∃q,s.blks=q++u_ 0 c) (h:pq S w0 g0 N n s a w) {e0:amm D} (d:(agk T S G.results.toList c.length s).run e0=some (r,k,j)):
  a.defers=[]/\∃v,(results G a.tmps).run P w= .ok v w/\∃y,More g0 y/\Hp S w0 N (xR k j c) y (fun _=>True) w/\r.Rel S (aY N (xR k j c) y) w y v:=by
 obtain⟨g,X,hs,hn,R,hm⟩:=h;unfold agk at d;split at d
 ·cases d
 rename_i U aa;obtain⟨M,hrun,J⟩:=Gl Z X hs _ U aa;dsimp only at d;split at d
 ·rename_i hc;injection d with d
  injection d with q1 d
  injection d with q2 q3
  simp only[jA]at hc;obtain⟨⟨x,K⟩,L⟩:=hc;generalize ajd:reach s.blk 5 (mQ (List.range c.length) (U.flatMap Sv.refs))=ids at*;generalize hkeys:(s.blks.take (s.blks.length - c.length)).map (·.1)=H at*;have E:ids.Nodup:=by
   rw[<-ajd];exact Hg _ _ (qR _ _ List.nodup_range)
  have x:=Wu x;have K:=uw K;have L:=uw L;have z:∀l∈ids,∀e,s.blk l=some e->∀r∈e.refs,r∈ids:=fun l o e I r d=>L r (zL.2 ⟨l,o,by simp only[afn,I];exact d⟩)
  obtain⟨q,p⟩:=p;have hil:∀(c:List (Bk D)) (i:Nat),(u_ i c).length=c.length:=fun c=>by
   induction c with
   | nil=>intro i;rfl
   | cons b r ih=>intro i;simp[u_,ih]
  have hk:H=q.map (·.1):=by
   simp_all
  have F:∀i e,xR k j c i=some e->∃l B,ids[i]? =some l/\s.blk l=some B/\e=B.ren (jd ids):=by
   intro i e m;unfold xR at m;split at m
   ·rename_i bk' C;injection m with m
    subst m;rw[<-q2]at C;obtain⟨l,B,h1,_,h3,h4⟩:=XB _ _ _ _ C;exact⟨l,B,by simpa using h1,aql h3,h4⟩
   ·split at m
    ·rename_i f;have f:=gJ.1 f;rw[<-q3]at f;unfold axB at f;obtain⟨m1,A⟩:=ZT.1 f;have A:=(Bool.and_eq_true_iff.1 A).1;simp only[awW,jA,Qbg]at A;have W:i < c.length:=by grind
     have Y:i∉q.map (·.1):=by rw[<-hk];exact O0 A.2
     refine⟨i,e,x i W,?_,(Bk.ZP fun l o=> ?_).symm⟩
     ·show look none s.blks i=some e
      rw[p,qB,kT Y,QP];exact m
     ·exact GU E (x l (V i e m l o))
    ·cases m
  refine⟨R,if h:M.toArray.size=1 then M.toArray[0]else .tuple M.toArray,?_,gc g ids,fun l v o=> ?_,X.named E F z,?_⟩
  ·unfold results;rw[Sem.run_bind,Qdq,Sem.run_map];change (((Sem.run P (G.results.toList.mapM (PT a.tmps)) w).andThen fun a w'=>Result.ok a.toArray w').andThen _)=_;simp_all
  ·simp only[gc,x l (Q l v o),Option.bind_some];exact hm l v o
  ·rw[<-q1];refine atN (J.ren (fun l o u hu=> ?_) fun _ b I=>WA F b I);rw[adY (K l o)];exact hu
 ·cases d
theorem aEU {f:FuncId}{n:Func}{m:Nat}(R:P.follows .mixedOrders=true)(E:∀t M,T t=some M->eP P t M)(hΓ:∀f ct,Γ f=some ct->fK P S f ct)(hS:iZ S)(hf:P.funcs[f]? =some n)(hc:y_ n=true)(Q:CB (FH n)=true):fK P S f (ctU T S Γ m n):=by
 simp only[y_,jA,Qdd,ne_eq]at hc;obtain⟨h1,Z,L⟩:=hc;obtain⟨c,x⟩:=Qb2.1 h1;have Y:FH n=c:=by simp[FH,x]
 refine⟨fun args w=>by simp[callFunc,hf,Z,x],fun X N g w args oU o p r post kp H I a hpre=> ?_⟩;unfold ctU at a;split at a
 ·rename_i z;have z:=Qa0 z;split at a
  ·cases a
  rename_i k0 V;obtain⟨i1,i2⟩:=aBL V;split at a
  ·cases a
  rename_i e1 k1 C;rw[aEb]at C;obtain⟨v1,W⟩:=aAn _ i1 C;rw[i2]at W;split at a
  ·cases a
  ·rename_i J h j k;have k:=ayy v1 k;injection a with a
   injection a with q1 a
   injection a with q2 a
   injection a with q3 q4
   subst q1 q2 q3 q4;rw[<-aDG (K:=att T S n.results.toList o.length) _ Q W]at k;have k:=Tr.ZG _ _ k;rw[Y]at k L;have O:∀l v,g l=some v->l < o.length:=H.al;have U:∀(l:Nat) (y:Bk D),o[l]? =some y->∀r∈y.refs,r < o.length:=fun l y x r q=>by
    obtain⟨v,hv,F⟩:=H.dD l y x;cases y with
    | cells cs=>
     obtain⟨b,vs,t,_,_,_,B⟩:=F;obtain⟨u,hu⟩:=bf.iO B r q
     grind
    | row e d=>simp[Bk.refs]at q
    | xZ d=>simp[Bk.refs]at q
    | iter s p=>simp[Bk.refs]at q
    | map kvs=>simp[Bk.refs]at q
    | tc t cs=>
     obtain⟨b,vs,_,_,_,B⟩:=F;obtain⟨u,hu⟩:=bf.iO B r q
     grind
   refine calls_of_wp hf x (Xd aHn R E hΓ hS (w0:=⟨w,X⟩) (N:=N) c _ _ _ _ _ _ _ w L k (KY H I z) fun e s' a' w' h' hpb _ A=> ?_);have G:(agk T S n.results.toList o.length s').run (J,h,j)=some (J,h,j)->a'.defers=[]/\∃v,(results n a'.tmps).run P w'= .ok v w'/\∃v' g',Ending.returned v= .returned v'/\More g g'/\Hp S ⟨w,X⟩ N (xR h j o) g' (fun _=>True) w'/\
     J.Rel S (aY N (xR h j o) g') w' g' v':=by
    intro A;obtain⟨h1,v,Z,g',L,h4,h5⟩:=Xp E O U hpb h' A
    grind
   cases e with
   | normal=>exact G A
   | ret=>exact G A
   | exit i=>cases A
 ·cases a
def aBq (P:Program)(f:FuncId):Option Func:=
 match P.funcs[f]? with
 | some a=>if y_ a && CB (FH a)then some a else none
 | none=>none
noncomputable def ZX (P:Program)(T:TypeId->Option Ty)(S:Sh D)(ext:FuncId->Option (Ct D))(m:Nat):Nat->FuncId->Option (Ct D)
 | 0,_=>none
 | k+1,f=>(match ext f with
  | some b=>(match aBq P f with
   | some a=>some (auu b (ctU T S (ZX P T S ext m k) m a))
   | none=>some b)
  | none=>(match aBq P f with
   | some a=>some (ctU T S (ZX P T S ext m k) m a)
   | none=>none))
theorem anK {ext:FuncId->Option (Ct D)}{m:Nat}(j:P.follows .mixedOrders=true)(i:∀t l,T t=some l->eP P t l)(n:iZ S)(g:∀f b,ext f=some b->fK P S f b):∀(k:Nat) (f:FuncId) (b:Ct D),ZX P T S ext m k f=some b->fK P S f b
 | 0,f,b,h=>by cases h
 | k+1,f,b,h=>by
  have o:∀d,aBq P f=some d->fK P S f (ctU T S (ZX P T S ext m k) m d):=fun d a=>by
   unfold aBq at a;split at a
   ·rename_i r q;split at a
    ·rename_i e;injection a with a
     subst a;rw[jA]at e;exact aEU j i (anK j i n g k) n q e.1 e.2
    ·cases a
   ·cases a
  unfold ZX at h;split at h
  ·rename_i c p;split at h
   ·rename_i d a;injection h with h
    subst h;exact ae1 (g f c p) (o d a)
   grind
  grind
end
end Go.Vc

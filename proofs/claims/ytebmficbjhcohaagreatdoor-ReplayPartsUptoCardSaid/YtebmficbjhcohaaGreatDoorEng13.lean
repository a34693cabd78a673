/- Own engine: Vef, Vde. -/
import Derived.Test.YtebmficbjhcohaaGreatDoorEng12
set_option linter.unusedVariables false
set_option linter.unusedSimpArgs false
namespace Go.Vc
open Go.RowKit
inductive oP (α:Type) where
 | leaf
 | node (v:Option α) (l r:oP α)
section
variable {α:Type}
def oP.v:oP α->Option α
 | .leaf=>none
 | .node v _ _=>v
def oP.l:oP α->oP α
 | .leaf=> .leaf
 | .node _ l _=>l
def oP.r:oP α->oP α
 | .leaf=> .leaf
 | .node _ _ r=>r
noncomputable def oP.get (t:oP α):Nat->Option α:=
 oP.rec (motive:=fun _=>Nat->Option α) (fun _=>none) (fun v _ _ a b n=>Bool.rec (motive:=fun _=>Option α) (Bool.rec (motive:=fun _=>Option α) (b (Nat.div n 2)) (a (Nat.div n 2)) (Nat.beq (Nat.mod n 2) 0)) v (Nat.beq n 0)) t
noncomputable def oP.set (k:Nat):oP α->Nat->α->oP α:=
 Nat.rec (motive:=fun _=>oP α->Nat->α->oP α) (fun t _ _=>t) (fun _ a t n x=>oP.rec (motive:=fun _=>oP α)
  (Bool.rec (motive:=fun _=>oP α) (Bool.rec (motive:=fun _=>oP α) (.node none .leaf (a .leaf (Nat.div n 2) x)) (.node none (a .leaf (Nat.div n 2) x) .leaf) (Nat.beq (Nat.mod n 2) 0)) (.node (some x) .leaf .leaf) (Nat.beq n 0))
  (fun v l r _ _=>Bool.rec (motive:=fun _=>oP α) (Bool.rec (motive:=fun _=>oP α) (.node v l (a r (Nat.div n 2) x)) (.node v (a l (Nat.div n 2) x) r) (Nat.beq (Nat.mod n 2) 0)) (.node (some x) l r) (Nat.beq n 0)) t) k
theorem oP.get_eq (t:oP α)(n:Nat):t.get n=cond (Nat.beq n 0) t.v (cond (Nat.beq (n % 2) 0) (t.l.get (n / 2)) (t.r.get (n / 2))):=by
 cases t with
 | leaf=>
  show none=_
  cases Nat.beq n 0<;>cases Nat.beq (n % 2) 0<;>rfl
 | node v l r=>
  show Bool.rec (motive:=fun _=>Option α) (Bool.rec (motive:=fun _=>Option α) (r.get (n / 2)) (l.get (n / 2)) (Nat.beq (n % 2) 0)) v (Nat.beq n 0)=cond (Nat.beq n 0) v (cond (Nat.beq (n % 2) 0) (l.get (n / 2)) (r.get (n / 2)))
  cases Nat.beq n 0<;>cases Nat.beq (n % 2) 0<;>rfl
theorem oP.afk (k:Nat)(t:oP α)(n:Nat)(x:α):oP.set (k+1) t n x=cond (Nat.beq n 0) (.node (some x) t.l t.r) (cond (Nat.beq (n % 2) 0) (.node t.v (oP.set k t.l (n / 2) x) t.r) (.node t.v t.l (oP.set k t.r (n / 2) x))):=by
 cases t with
 | leaf=>
  show Bool.rec (motive:=fun _=>oP α) (Bool.rec (motive:=fun _=>oP α) (.node none .leaf (oP.set k .leaf (n / 2) x)) (.node none (oP.set k .leaf (n / 2) x) .leaf) (Nat.beq (n % 2) 0)) (.node (some x) .leaf .leaf) (Nat.beq n 0)=_
  cases Nat.beq n 0<;>cases Nat.beq (n % 2) 0<;>rfl
 | node v l r=>
  show Bool.rec (motive:=fun _=>oP α) (Bool.rec (motive:=fun _=>oP α) (.node v l (oP.set k r (n / 2) x)) (.node v (oP.set k l (n / 2) x) r) (Nat.beq (n % 2) 0)) (.node (some x) l r) (Nat.beq n 0)=_
  cases Nat.beq n 0<;>cases Nat.beq (n % 2) 0<;>rfl
theorem rf (n m:Nat):(Nat.beq n m=true/\n=m)\/(Nat.beq n m=false/\n≠m):=by
 cases h:Nat.beq n m with
 | true=>exact .inl ⟨rfl,Qa h⟩
 | false=>exact .inr ⟨rfl,fun e=>by rw[e]at h;simp at h⟩
theorem oP.V_ (v:Option α)(l r:oP α)(n:Nat):(oP.node v l r).get n=cond (Nat.beq n 0) v (cond (Nat.beq (n % 2) 0) (l.get (n / 2)) (r.get (n / 2))):=oP.get_eq _ _
theorem oP.alG:∀(k:Nat) (t:oP α) (n m:Nat) (x:α),n < 2 ^ k->(oP.set (k+1) t n x).get m=if m=n then some x else t.get m:=by
 intro k;induction k with
 | zero=>
  intro t n m x h;have o:n=0:=by simpa using h
  subst o;rw[oP.afk,oP.get_eq t m];show(oP.node (some x) t.l t.r).get m=_
  rw[oP.V_];rcases rf m 0 with⟨a,rfl⟩ | ⟨a,d⟩
  ·rfl
  ·rw[a,lW d];rfl
 | succ k j=>
  intro t n m x h;rw[oP.afk,oP.get_eq t m];rcases rf n 0 with⟨a,rfl⟩ | ⟨a,g⟩
  ·rw[a];show(oP.node (some x) t.l t.r).get m=_
   rw[oP.V_];rcases rf m 0 with⟨a,rfl⟩ | ⟨a,d⟩
   ·rfl
   ·rw[a,lW d];rfl
  ·rw[a];have f:n / 2 < 2 ^ k:=by rw[Nat.pow_succ]at h;omega
   rcases rf (n % 2) 0 with⟨d,p⟩ | ⟨d,p⟩<;>rw[d]<;>simp only[qH,AC]<;>rw[oP.V_]
   ·rcases rf m 0 with⟨b,rfl⟩ | ⟨b,l⟩
    ·rw[b,lW (Ne.symm g)];rfl
    ·rw[b];rcases rf (m % 2) 0 with⟨c,i⟩ | ⟨c,i⟩
     ·rw[c];simp only[qH,AC];rw[j _ _ _ _ f];by_cases e:m=n
      ·subst e;simp
      ·rw[lW (show ¬m / 2=n / 2 by omega),lW e]
     ·rw[c,lW (show ¬m=n by rintro rfl;omega)];rfl
   ·rcases rf m 0 with⟨b,rfl⟩ | ⟨b,l⟩
    ·rw[b,lW (Ne.symm g)];rfl
    ·rw[b];rcases rf (m % 2) 0 with⟨c,i⟩ | ⟨c,i⟩
     ·rw[c,lW (show ¬m=n by rintro rfl;omega)];rfl
     ·rw[c];simp only[qH,AC];rw[j _ _ _ _ f];by_cases e:m=n
      ·subst e;simp
      ·rw[lW (show ¬m / 2=n / 2 by omega),lW e]
end
section
variable {D:Type}
structure Kt (D:Type) where
 s:St D
 sl:oP (Sl D)
 bl:oP (Option (Bk D))
noncomputable def Aj (t:oP (Sl D))(n:Nat):Sl D:=
 match t.get n with
 | some x=>x
 | none=> .one (.lf .any)
noncomputable def zS (t:oP (Option (Bk D)))(n:Nat):Option (Bk D):=
 match t.get n with
 | some x=>x
 | none=>none
noncomputable def aaW (t:oP (Sl D))(n:Nat)(x:Sl D):Option (oP (Sl D)):=cond (Nat.blt n 65536) (some (oP.set 17 t n x)) none
noncomputable def agy:oP (Option (Bk D))->List (Nat×Option (Bk D))->Option (oP (Option (Bk D)))
 | t,[]=>some t
 | t,(n,x)::r=>cond (Nat.blt n 1099511627776) (agy (oP.set 41 t n x) r) none
noncomputable def Kt.put (k:Kt D)(a:Option Nat)(v:Sl D)(b:List (Nat×Option (Bk D))):Option (Kt D):=
 match agy k.bl b with
 | none=>none
 | some c=>(match a with
  | none=>some ⟨k.s.put a v b,k.sl,c⟩
  | some d=>(match aaW k.sl d v with
   | none=>none
   | some e=>some ⟨k.s.put a v b,e,c⟩))
structure Aq (k:Kt D):Prop where
 sl:Aj k.sl=k.s.slot
 bl:zS k.bl=k.s.blk
def aAB (T:TypeId->Option Ty)(S:Sh D)(c:Nat->Option (Bk D))(t:TypeId)(a:Sl D):Option (Out D):=
 match LU T c t a with
 | some b=>some b
 | none=>(match D7 T S c t a with
  | some b=>some b
  | none=>xO T S c t a)
def ars (T:TypeId->Option Ty)(S:Sh D)(e:FuncId->Option (Ct D))(a:Nat->Sl D)(c:Nat->Option (Bk D))(d:Nat)(t:TypeId)(x y:Operand):Option (Out D):=
 match Ew T c t (aB a x) (aB a y)with
 | some b=>some b
 | none=>(match yl T S c t (aB a x) (aB a y)with
  | some b=>some b
  | none=>(match BJ T S c t (aB a x) (aB a y)with
   | some b=>some b
   | none=>uJ T S e a c d (.store t x y)))
def aIM (T:TypeId->Option Ty)(S:Sh D)(c:BinOp)(t:TypeId)(a b:Sl D):Option (Out D):=
 match adc T S c t a b with
 | some d=>some d
 | none=>vJ (Xw T S c t a b) (asb T c t a b)
def aAx (T:TypeId->Option Ty)(S:Sh D)(d:Nat->Option (Bk D))(t:TypeId)(a b:Sl D):Option (Out D):=
 match Vk T t a b with
 | some c=>some c
 | none=>(match Ii T S t a b with
  | some c=>some c
  | none=>D8 T S d t a b)
def aq0 (T:TypeId->Option Ty)(t:TypeId)(a b:Sl D):Option (Out D):=
 match Ko T t a b with
 | some c=>some c
 | none=>(match KI T t a b with
  | some c=>some c
  | none=>Si T t a b)
def aGD (a:Sl D):Option (Out D):=
 match a with
 | .one (.lf (.ptr l o))=>lD none (.ptr l o)
 | .one (.lf (.elt d i j))=>lD none (.elt d i j)
 | .one (.lf (.opt l i j g))=>lD none (.opt l i j g)
 | .one (.lf (.fn f b))=>lD none (.fn f b)
 | .one (.lf (.xt (.clo f e c)))=>lD none (.xt (.clo f e c))
 | _=>none
def aA0 (T:TypeId->Option Ty)(S:Sh D)(c:Nat->Option (Bk D))(s t:TypeId)(a:Sl D):Option (Out D):=
 match O1 T S c s t a with
 | some b=>some b
 | none=>(match Vp T S s t a with
  | some b=>some b
  | none=>ael T s t a)
def aHp (b:Nat)(a:Sl D):Option (Out D):=
 match a with
 | .one u=>if u.whole then some ⟨none, .one (.lf (.ptr b 0)),[(b,some (.cells u.cells))]⟩else none
 | _=>none
def hFn (g:FuncId->Option (Ct D))(b:Nat->Option (Bk D))(e:Nat)(a:Sl D)(args:List (Sl D)):Option (Out D):=
 match MK g b e a args with
 | some d=>some d
 | none=>(match a with
  | .one (.lf (.fn f c))=>if c.all (fun l=>isCells (b l))then Eh g f b (args++c.map fun l=> .one (.lf (.ptr l 0))) e else none
  | _=>none)
def aA5 (T:TypeId->Option Ty)(S:Sh D)(e:FuncId->Option (Ct D))(a:Nat->Sl D)(b:Nat->Option (Bk D))(d:Nat)(c:Call):Option (Option (Out D)):=
 match c.callee with
 | .value f=>some (hFn e b d (aB a f) (c.args.toList.map (aB a)))
 | .builtin .len=>(match c.args.toList with
  | [x]=>some (acw S T b c.argTypes (aB a x))
  | _=>none)
 | _=>none
def aC5 (T:TypeId->Option Ty)(S:Sh D)(j:FuncId->Option (Ct D))(d:Nat->Sl D)(e:Nat->Option (Bk D))(h:Nat)(g:Op):Option (Option (Out D)):=
 match g with
 | .move x=>some (some ⟨none,aB d x,[]⟩)
 | .assign x=>some (some ⟨none,aB d x,[]⟩)
 | .load t x=>some (aAB T S e t (aB d x))
 | .store t x y=>some (ars T S j d e h t x y)
 | .fieldAddr t x f=>some (wQ T t (aB d x) f)
 | .extract x i=>some (zU (aB d x) i)
 | .binOp g t x y _=>some (aIM T S g t (aB d x) (aB d y))
 | .unOp g _ x=>some (xUn g (aB d x))
 | .indexAddr t x i=>some (aAx T S e t (aB d x) (aB d i))
 | .index t x i=>some (aq0 T t (aB d x) (aB d i))
 | .nilCheck x=>some (aGD (aB d x))
 | .pick c a b=>some (Yc d c a b)
 | .convert s t x=>some (aA0 T S e s t (aB d x))
 | .box _ x=>some (aHp h (aB d x))
 | .call c=>aA5 T S j d e h c
 | _=>none
noncomputable def VH (d:Array Oper)(c:Bool)(o:Oper)(i:Nat)(b:Acc)(k:Kt D)(a:Out D):Option (Acc×Kt D):=
 match okD a.pre with
 | false=>none
 | true=>(match c with
  | false=>(match k.put o.dst a.val a.blks with
   | none=>none
   | some k=>some (b,k))
  | true=>(match aeo d b o (dB (Aj k.sl) (zS k.bl) o.op) (a.blks.map (·.1))with
   | true=>none
   | false=>(match k.put o.dst a.val a.blks with
    | none=>none
    | some e=>some ((i,dB (Aj k.sl) (zS k.bl) o.op,a.blks.map (·.1))::b,e))))
noncomputable def auX (T:TypeId->Option Ty)(S:Sh D)(h:FuncId->Option (Ct D))(c:Array Oper)(a:Bool)(o:Oper)(i:Nat)(d:Acc)(k:Kt D):Option (Acc×Kt D):=
 match Cm (Aj k.sl) (zS k.bl) o.op with
 | some (b,f,g)=>VH c a o i d k (cond b f g)
 | none=>(match rY T S h (Aj k.sl) (zS k.bl) (k.s.next+64*i) o.op with
  | none=>none
  | some e=>VH c a o i d k e)
noncomputable def JV (T:TypeId->Option Ty)(S:Sh D)(e:FuncId->Option (Ct D))(b:Array Oper)(a:Bool)(o:Oper)(i:Nat)(c:Acc)(k:Kt D):Option (Acc×Kt D):=
 match aC5 T S e (Aj k.sl) (zS k.bl) (k.s.next+64*i) o.op with
 | some r=>(match r with
  | some d=>VH b a o i c k d
  | none=>none)
 | none=>auX T S e b a o i c k
noncomputable def VD (c:Array Oper)(b:Bool)(o:Oper)(i:Nat)(a:Acc)(k:Kt D):Option (Acc×Kt D):=
 match b with
 | false=>(match k.put o.dst (.one (.lf (.val undef))) []with
  | none=>none
  | some k=>some (a,k))
 | true=>(match aeo c a o (dB (Aj k.sl) (zS k.bl) o.op) []with
  | true=>none
  | false=>(match k.put o.dst (.one (.lf (.val undef))) []with
   | none=>none
   | some d=>some ((i,dB (Aj k.sl) (zS k.bl) o.op,[])::a,d)))
noncomputable def Kt.tell (k:Kt D)(d:Nat)(b:Bool):Option (Kt D):=
 match aaW k.sl d (.one (.lf (.val (.bool b))))with
 | none=>none
 | some a=>some ⟨⟨(d, .one (.lf (.val (.bool b))))::k.s.tmps,k.s.blks,k.s.next⟩,a,k.bl⟩
noncomputable def abo (T:TypeId->Option Ty)(S:Sh D)(g:FuncId->Option (Ct D))(c:Array Oper)(a:Bool)(o:Oper)(i:Nat)(e:Acc)(k:Kt D):Option (Acc×Kt D):=
 match o.guard with
 | none=>JV T S g c a o i e k
 | some (j,f)=>(match(c[j]?).bind (·.dst)with
  | none=>none
  | some d=>(match Aj k.sl d with
   | .one (.lf (.bool b))=>(match k.tell d b with
    | none=>none
    | some k=>(match b==f with
     | true=>JV T S g c a o i e k
     | false=>VD c a o i e k))
   | .one (.lf (.val (.bool b)))=>(match b==f with
    | true=>JV T S g c a o i e k
    | false=>VD c a o i e k)
   | .one (.lf (.val v))=>(match FC v with
    | true=>VD c a o i e k
    | false=>none)
   | _=>none))
noncomputable def acv (T:TypeId->Option Ty)(S:Sh D)(d:FuncId->Option (Ct D))(c:Array Oper)(n:Nat)(b:Bool):List Oper->Nat->Acc->Kt D->Option (Kt D)
 | [],i,_,k=>some ⟨⟨k.s.tmps,k.s.blks,k.s.next+64*i⟩,k.sl,k.bl⟩
 | o::r,i,a,k=>
  match Vr n o.dst with
  | false=>none
  | true=>(match abo T S d c b o i a k with
   | none=>none
   | some (a,k)=>acv T S d c n b r (i+1) a k)
noncomputable def y_ (T:TypeId->Option Ty)(S:Sh D)(d:FuncId->Option (Ct D))(n m:Nat):Code->Kt D->Option (Ex×Kt D)
 | .skip,s=>some (.normal,s)
 | .region _ ops f,s=>(match acv T S d ops n f ops.toList 0 [] s with
  | none=>none
  | some s=>some (.normal,s))
 | .seq a b,s=>(match y_ T S d n m a s with
  | none=>none
  | some (e,s)=>(match e with
   | .normal=>y_ T S d n m b s
   | .exit i=>some (.exit i,s)
   | .ret=>some (.ret,s)))
 | .cond c x y,s=>(match aB (Aj s.sl) c with
  | .one (.lf (.bool b))=>cond b (y_ T S d n m x s) (y_ T S d n m y s)
  | .one (.lf (.val (.bool b)))=>cond b (y_ T S d n m x s) (y_ T S d n m y s)
  | _=>none)
 | .block id b,s=>(match y_ T S d n m b s with
  | none=>none
  | some (e,s)=>(match e with
   | .normal=>some (.normal,s)
   | .exit j=>(match Nat.beq j id with
    | true=>some (.normal,s)
    | false=>some (.exit j,s))
   | .ret=>some (.ret,s)))
 | .loop b,s=>(match Nat.blt (l_ b) 100000 with
  | false=>none
  | true=>Nat.rec (motive:=fun _=>Kt D->Option (Ex×Kt D)) (fun _=>none) (fun _ g s=>match y_ T S d n m b s with
   | none=>none
   | some (e,s)=>(match e with
    | .normal=>g s
    | .exit i=>some (.exit i,s)
    | .ret=>some (.ret,s))) m s)
 | .exit id,s=>some (.exit id,s)
 | .ret,s=>some (.ret,s)
 | .scope b,s=>y_ T S d n m b s
 | .label _,s=>some (.normal,s)
 | _,_=>none
abbrev Ru (D:Type):=Kt D->Option (Ex×Kt D)
noncomputable def aAT:Ru D:=fun s=>some (.normal,s)
noncomputable def azs (T:TypeId->Option Ty)(S:Sh D)(c:FuncId->Option (Ct D))(n:Nat)(a:Array Oper)(b:Bool):Ru D:=fun s=>
 match acv T S c a n b a.toList 0 [] s with
 | none=>none
 | some s=>some (.normal,s)
noncomputable def aEf (a b:Ru D):Ru D:=fun s=>
 match a s with
 | none=>none
 | some (e,s)=>(match e with
  | .normal=>b s
  | .exit i=>some (.exit i,s)
  | .ret=>some (.ret,s))
noncomputable def aug (c:Operand)(x y:Ru D):Ru D:=fun s=>
 match aB (Aj s.sl) c with
 | .one (.lf (.bool b))=>cond b (x s) (y s)
 | .one (.lf (.val (.bool b)))=>cond b (x s) (y s)
 | _=>none
noncomputable def af4 (id:Nat)(b:Ru D):Ru D:=fun s=>
 match b s with
 | none=>none
 | some (e,s)=>(match e with
  | .normal=>some (.normal,s)
  | .exit j=>(match Nat.beq j id with
   | true=>some (.normal,s)
   | false=>some (.exit j,s))
  | .ret=>some (.ret,s))
noncomputable def aE5 (b a:Ru D):Ru D:=fun s=>
 match b s with
 | none=>none
 | some (e,s)=>(match e with
  | .normal=>a s
  | .exit i=>some (.exit i,s)
  | .ret=>some (.ret,s))
noncomputable def az8 (m:Nat)(c:Code)(b:Ru D):Ru D:=fun s=>
 match Nat.blt (l_ c) 100000 with
 | false=>none
 | true=>Nat.rec (motive:=fun _=>Ru D) (fun _=>none) (fun _ a=>aE5 b a) m s
noncomputable def aG8 (e:Ex):Ru D:=fun s=>some (e,s)
noncomputable def aqT:Ru D:=fun _=>none
noncomputable def evK (T:TypeId->Option Ty)(S:Sh D)(e:FuncId->Option (Ct D))(n m:Nat)(c:Code):Ru D:=
 Code.rec (motive:=fun _=>Ru D) aAT (fun _ ops d=>azs T S e n ops d) (fun _ _ a b=>aEf a b) (fun c _ _ x y=>aug c x y) (fun id _ b=>af4 id b) (fun c b=>az8 m c b) (fun _ _ _ _ _ _=>aqT)
  (fun id=>aG8 (.exit id)) (fun _ b=>b) (fun _=>aAT) (fun _=>aqT) (aG8 .ret) (fun _=>aqT) c
theorem aFd (T:TypeId->Option Ty)(S:Sh D)(d:FuncId->Option (Ct D))(n m:Nat):∀(c:Code) (s:Kt D),evK T S d n m c s=y_ T S d n m c s:=by
 intro c;induction c with
 | seq a b h i=>
  intro s;show aEf (evK T S d n m a) (evK T S d n m b) s=_
  unfold aEf y_;rw[h];split
  ·rfl
  ·rename_i e l o;cases e with
   | normal=>exact i l
   | _=>rfl
 | cond c x y g j=>
  intro s;show aug c (evK T S d n m x) (evK T S d n m y) s=_
  unfold aug y_;rw[g,j]
 | block id b f=>
  intro s;show af4 id (evK T S d n m b) s=_
  unfold af4 y_;rw[f]
 | loop b f=>
  intro s;show az8 m b (evK T S d n m b) s=_
  have k:evK T S d n m b=y_ T S d n m b:=funext f;rw[k];rfl
 | scope b f=>intro s;exact f s
 | _=>intro s;rfl
noncomputable def Kt.init (args:List (Sl D))(b:List (Bk D)):Option (Kt D):=
 (args.zipIdx.foldl (fun k p=>match k with
  | none=>none
  | some a=>aaW a p.2 p.1) (some .leaf)).bind fun a=>(agy .leaf (sW 0 b)).map fun c=>⟨St.init args b,a,c⟩
end
section
variable {D:Type}{S:Sh D}{T:TypeId->Option Ty}{Γ:FuncId->Option (Ct D)}
theorem VL {t b:oP (Sl D)}{n:Nat}{x:Sl D}(h:aaW t n x=some b):Aj b=upd (Aj t) n x:=by
 unfold aaW at h;cases a:Nat.blt n 65536 with
 | false=>rw[a]at h;cases h
 | true=>
  rw[a]at h;injection h with h
  subst h;rw[CE]at a;funext m;unfold Aj upd;rw[oP.alG 16 t n m x au];by_cases e:m=n
  ·rw[mV e,mV e]
  ·rw[lW e,lW e]
theorem UW:∀{c:List (Nat×Option (Bk D))} {t a:oP (Option (Bk D))},agy t c=some a->zS a=kw (zS t) c
 | [],t,a,h=>by injection h with h;subst h;rfl
 | (n,x)::r,t,a,h=>by
  unfold agy at h;cases b:Nat.blt n 1099511627776 with
  | false=>rw[b]at h;cases h
  | true=>
   rw[b]at h;rw[CE]at b;have h:agy (oP.set 41 t n x) r=some a:=h;rw[UW h];show _=kw (upd (zS t) n x) r
   congr 1;funext m;unfold zS upd;rw[oP.alG 40 t n m x au];by_cases e:m=n
   ·rw[mV e,mV e]
   ·rw[lW e,lW e]
theorem Zz {k c:Kt D}{b:Option Nat}{v:Sl D}{j:List (Nat×Option (Bk D))}(a:Aq k)(h:k.put b v j=some c):Aq c/\c.s=k.s.put b v j:=by
 unfold Kt.put at h;split at h
 ·cases h
 ·rename_i e i;have f:=UW i;split at h
  ·injection h with h
   subst h;refine⟨⟨?_,?_⟩,rfl⟩
   ·rw[uz];exact a.sl
   ·rw[xY];show zS e=_;rw[f,a.bl];rfl
  ·rename_i d;split at h
   ·cases h
   ·rename_i l g;injection h with h
    subst h;refine⟨⟨?_,?_⟩,rfl⟩
    ·rw[uz];show Aj l=_;rw[VL g,a.sl];rfl
    ·rw[xY];show zS e=_;rw[f,a.bl];rfl
theorem Fb {d:Array Oper}{a:Bool}{o:Oper}{i:Nat}{f b:Acc}{k j:Kt D}{e:Out D}(c:Aq k)(h:VH d a o i f k e=some (b,j)):Aq j/\OY T S Γ d a o i f k.s e=some (b,j.s):=by
 unfold VH at h;unfold OY;rw[c.sl,c.bl]at h;split at h
 ·cases h
 ·rename_i s;rw[s];cases a with
  | false=>
   dsimp only at h⊢;split at h
   ·cases h
   ·rename_i q n;injection h with h;injection h with m p;subst m p
    obtain⟨g,l⟩:=Zz c n;exact⟨g,by rw[l]⟩
  | true=>
   dsimp only at h⊢;split at h
   ·cases h
   ·rename_i r;rw[r];dsimp only;split at h
    ·cases h
    ·rename_i q n;injection h with h;injection h with m p;subst m p
     obtain⟨g,l⟩:=Zz c n;exact⟨g,by rw[l]⟩
theorem aEh {a:Nat->Sl D}{b:Nat->Option (Bk D)}{j:Nat}{d:Op}{r:Option (Out D)}(h:aC5 T S Γ a b j d=some r):Cm a b d=none/\rY T S Γ a b j d=r:=by
 unfold aC5 at h;split at h;all_goals first | (cases h;done) | (injection h with h;subst h;refine⟨rfl,?_⟩) | skip
 ·rfl
 ·rfl
 ·rename_i t x;unfold aAB;simp only[rY,nN,kR,ig,wJ,vF,lX,vC,sK,uJ,j_,Qbq,Ot,if_false];cases LU T b t (aB a x)with
  | some o=>rfl
  | none=>cases D7 T S b t (aB a x)with
   | some o=>rfl
   | none=>cases xO T S b t (aB a x)<;>rfl
 ·rename_i t x y;unfold ars;simp only[rY,nN,kR,ig,wJ,vF,lX,vC,sK,Qbq,Ot,if_false];cases Ew T b t (aB a x) (aB a y)with
  | some o=>rfl
  | none=>cases yl T S b t (aB a x) (aB a y)with
   | some o=>rfl
   | none=>cases BJ T S b t (aB a x) (aB a y)<;>rfl
 ·rename_i t x f;simp only[rY,nN,kR,ig,wJ,vF,lX,vC,sK,uJ,j_,Qbq,Ot,if_false];cases wQ T t (aB a x) f<;>rfl
 ·rename_i x i;simp only[rY,nN,kR,ig,wJ,vF,lX,vC,sK,uJ,j_,Qbq,Ot,if_false];cases zU (aB a x) i<;>rfl
 ·rename_i d t x y v;unfold aIM;simp only[rY,nN,kR,ig,wJ,vF,lX,vC,sK,uJ,j_,Qbq,Ot,if_false];cases adc T S d t (aB a x) (aB a y)with
  | some o=>rfl
  | none=>cases vJ (Xw T S d t (aB a x) (aB a y)) (asb T d t (aB a x) (aB a y))<;>rfl
 ·rename_i d t x;simp only[rY,nN,kR,ig,wJ,vF,lX,vC,sK,uJ,j_,Qbq,Ot,if_false];cases xUn d (aB a x)<;>rfl
 ·rename_i t x i;unfold aAx;simp only[rY,nN,kR,ig,wJ,vF,lX,vC,sK,uJ,j_,Qbq,Ot,if_false];cases Vk T t (aB a x) (aB a i)with
  | some o=>rfl
  | none=>cases Ii T S t (aB a x) (aB a i)with
   | some o=>rfl
   | none=>cases D8 T S b t (aB a x) (aB a i)<;>rfl
 ·rename_i t x i;unfold aq0;simp only[rY,nN,kR,ig,wJ,vF,lX,vC,sK,uJ,j_,Qbq,Ot,if_false];cases Ko T t (aB a x) (aB a i)with
  | some o=>rfl
  | none=>cases KI T t (aB a x) (aB a i)with
   | some o=>rfl
   | none=>cases Si T t (aB a x) (aB a i)<;>rfl
 ·rename_i x;unfold aGD;simp only[rY,nN,kR,ig,wJ,vF,lX,vC,sK,uJ,j_,Qbq,Ot,if_false];cases aB a x with
  | sO k=>rfl
  | one u=>
   cases u with
   | agg k=>rfl
   | lf y=>
    cases y<;>first | rfl | (rename_i e;cases e<;>rfl)
 ·rename_i c x y;simp only[rY,nN,kR,ig,wJ,vF,lX,vC,sK,uJ,j_,Qbq,Ot,if_false];cases Yc a c x y<;>rfl
 ·rename_i s t x;unfold aA0;simp only[rY,nN,kR,ig,wJ,vF,lX,vC,sK,uJ,j_,Qbq,Ot,if_false];cases O1 T S b s t (aB a x)with
  | some o=>rfl
  | none=>cases Vp T S s t (aB a x)with
   | some o=>rfl
   | none=>cases ael T s t (aB a x)<;>rfl
 ·rename_i t x;unfold aHp;simp only[rY,nN,kR,ig,wJ,vF,lX,vC,sK,uJ,j_,Qbq,Ot,if_false];cases aB a x with
  | sO k=>rfl
  | one u=>
   dsimp only;cases u.whole<;>rfl
 ·rename_i c;unfold aA5 at h;split at h
  ·rename_i f m;injection h with h
   subst h;refine⟨rfl,?_⟩;unfold hFn;simp only[rY,nN,kR,ig,wJ,vF,lX,vC,sK,uJ,j_,Qbq,Ot,if_false,m];cases MK Γ b j (aB a f) (c.args.toList.map (aB a))with
   | some o=>rfl
   | none=>
    cases aB a f with
    | sO k=>rfl
    | one u=>
     cases u with
     | agg k=>rfl
     | lf y=>
      cases y<;>first | rfl | skip
      rename_i n g;dsimp only;cases q:(g.all fun l=>isCells (b l))with
      | true=>
       rw[mV rfl];cases Eh Γ n b (c.args.toList.map (aB a)++g.map fun l=> .one (.lf (.ptr l 0))) j<;>rfl
      | false=>
       rw[lW oI]
  ·rename_i m;split at h
   ·rename_i x p;injection h with h
    subst h;refine⟨rfl,?_⟩;simp only[rY,nN,kR,ig,wJ,vF,lX,vC,sK,uJ,j_,Qbq,Ot,if_false,m,p];cases acw S T b c.argTypes (aB a x)<;>rfl
   ·cases h
  ·cases h
theorem ax5 {d:Array Oper}{a:Bool}{o:Oper}{i:Nat}{c:Acc}{s:St D}:(match Cm s.slot s.blk o.op with
   | some (b,h,j)=>OY T S Γ d a o i c s (cond b h j)
   | none=>(match rY T S Γ s.slot s.blk (s.next+64*i) o.op with
    | none=>none
    | some e=>OY T S Γ d a o i c s e))=Bf T S Γ d a o i c s:=by
 unfold Bf;cases a with
 | true=>rfl
 | false=>
  cases k:akq T s.slot s.blk o.op with
  | none=>rfl
  | some v=>
   obtain⟨g,f⟩:=fast_ok (S:=S) (Γ:=Γ) (fr:=s.next+64*i) k;rw[g,f];rfl
theorem BQ {e:Array Oper}{c:Bool}{o:Oper}{i:Nat}{d b:Acc}{k f:Kt D}(a:Aq k)(h:JV T S Γ e c o i d k=some (b,f)):Aq f/\Bf T S Γ e c o i d k.s=some (b,f.s):=by
 rw[<-ax5];unfold JV at h;rw[a.sl,a.bl]at h;split at h
 ·rename_i r m;obtain⟨l,j⟩:=aEh m;rw[l,j];split at h
  ·exact Fb a h
  ·cases h
 ·unfold auX at h;rw[a.sl,a.bl]at h;split at h
  ·exact Fb a h
  ·split at h
   ·cases h
   ·rename_i n g;first | exact Fb a h | (rw[g];exact Fb a h)
theorem Ez {e:Array Oper}{a:Bool}{o:Oper}{i:Nat}{d b:Acc}{k f:Kt D}(c:Aq k)(h:VD e a o i d k=some (b,f)):Aq f/\Oe e a o i d k.s=some (b,f.s):=by
 unfold VD at h;unfold Oe;rw[c.sl,c.bl]at h;cases a with
 | false=>
  dsimp only at h⊢;split at h
  ·cases h
  ·rename_i q n;injection h with h;injection h with l g;subst l g
   obtain⟨m,j⟩:=Zz c n;exact⟨m,by rw[j]⟩
 | true=>
  dsimp only at h⊢;split at h
  ·cases h
  ·rename_i p;rw[p];dsimp only;split at h
   ·cases h
   ·rename_i q n;injection h with h;injection h with l g;subst l g
    obtain⟨m,j⟩:=Zz c n;exact⟨m,by rw[j]⟩
theorem aw9 {k a:Kt D}{d:Nat}{b:Bool}(c:Aq k)(h:k.tell d b=some a):Aq a/\a.s=⟨(d, .one (.lf (.val (.bool b))))::k.s.tmps,k.s.blks,k.s.next⟩:=by
 unfold Kt.tell at h;split at h
 ·cases h
 ·rename_i f e;injection h with h
  subst h;refine⟨⟨?_,c.bl⟩,rfl⟩;show Aj f=look _ _
  rw[VL e,c.sl,ug];rfl
theorem aht {q:Array Oper}{f:Bool}{o:Oper}{i:Nat}{r m:Acc}{k u:Kt D}(c:Aq k)(h:abo T S Γ q f o i r k=some (m,u)):Aq u/\aaA T S Γ q f o i r k.s=some (m,u.s):=by
 unfold abo at h;unfold aaA;split at h
 ·rename_i s;rw[s];exact BQ c h
 ·rename_i j t s;rw[s];dsimp only;split at h
  ·cases h
  ·rename_i d x;rw[x];dsimp only;rw[c.sl]at h;split at h
   ·rename_i b l;rw[l];dsimp only;split at h
    ·cases h
    ·rename_i A y;obtain⟨n,p⟩:=aw9 c y;cases b<;>cases t
     ·obtain⟨a,u2⟩:=BQ n h;rw[p]at u2;exact⟨a,u2⟩
     ·obtain⟨a,u2⟩:=Ez n h;rw[p]at u2;exact⟨a,u2⟩
     ·obtain⟨a,u2⟩:=Ez n h;rw[p]at u2;exact⟨a,u2⟩
     ·obtain⟨a,u2⟩:=BQ n h;rw[p]at u2;exact⟨a,u2⟩
   ·rename_i b l;rw[l];dsimp only;split at h
    ·rename_i g;rw[g];exact BQ c h
    ·rename_i g;rw[g];exact Ez c h
   ·rename_i v w l;rw[l];split at h
    ·rename_i g;obtain⟨a,u2⟩:=Ez c h;refine⟨a,?_⟩;split
     ·rename_i b e;cases e
     ·rename_i b e;injection e with e;injection e with e;injection e with e
      exact absurd e (w b)
     ·rename_i B _ e;injection e with e;injection e with e;injection e with e
      subst e;rw[g];exact u2
     ·rename_i C z;exact absurd rfl (z v)
    ·cases h
   ·cases h
theorem aeE {e:Array Oper}{n:Nat}{c:Bool}:∀{l:List Oper} {i:Nat} {a:Acc} {k b:Kt D},Aq k->acv T S Γ e n c l i a k=some b->Aq b/\amO T S Γ e n c l i a k.s=some b.s
 | [],i,a,k,b,d,h=>by
  injection h with h
  subst h;exact⟨⟨d.sl,d.bl⟩,rfl⟩
 | o::r,i,a,k,b,d,h=>by
  unfold acv at h;unfold amO;split at h
  ·cases h
  ·rename_i j;rw[j];dsimp only;split at h
   ·cases h
   ·rename_i m p g;obtain⟨f,u2⟩:=aht d g;rw[u2];exact aeE f h
theorem awm {n m:Nat}:∀(c:Code) {k f:Kt D} {e:Ex},Aq k->y_ T S Γ n m c k=some (e,f)->Aq f/\UN T S Γ n m c k.s=some (e,f.s):=by
 intro c;induction c with
 | skip=>intro k f e d h;injection h with h;injection h with p t;subst p t;exact⟨d,rfl⟩
 | region id ops I=>
  intro k f e d h;unfold y_ at h;unfold UN;split at h
  ·cases h
  ·rename_i v p;injection h with h;injection h with g o;subst g o
   obtain⟨q,u2⟩:=aeE d p;exact⟨q,by rw[u2]⟩
 | seq a b G H=>
  intro k f e d h;unfold y_ at h;unfold UN;split at h
  ·cases h
  ·rename_i u v p;obtain⟨q,u2⟩:=G d p;rw[u2];cases u with
   | normal=>exact H q h
   | exit i=>injection h with h;injection h with g o;subst g o;exact⟨q,rfl⟩
   | ret=>injection h with h;injection h with g o;subst g o;exact⟨q,rfl⟩
 | cond c x y w z=>
  intro k f e d h;unfold y_ at h;unfold UN;rw[d.sl]at h;split at h
  ·rename_i b B;rw[B];cases b with
   | true=>exact w d h
   | false=>exact z d h
  ·rename_i b B;rw[B];cases b with
   | true=>exact w d h
   | false=>exact z d h
  ·cases h
 | block id b r=>
  intro k f e d h;unfold y_ at h;unfold UN;split at h
  ·cases h
  ·rename_i u v p;obtain⟨q,u2⟩:=r d p;rw[u2];cases u with
   | normal=>injection h with h;injection h with g o;subst g o;exact⟨q,rfl⟩
   | exit j=>
    dsimp only at h⊢;split at h
    ·rename_i A;rw[A];injection h with h;injection h with g o;subst g o;exact⟨q,rfl⟩
    ·rename_i A;rw[A];injection h with h;injection h with g o;subst g o;exact⟨q,rfl⟩
   | ret=>injection h with h;injection h with g o;subst g o;exact⟨q,rfl⟩
 | loop b r=>
  intro k f e d h;unfold y_ at h;unfold UN;split at h
  ·cases h
  rename_i E;rw[E];dsimp only;have C:∀(j:Nat) (k:Kt D),Aq k->(Nat.rec (motive:=fun _=>Kt D->Option (Ex×Kt D)) (fun _=>none) (fun _ r s=>match y_ T S Γ n m b s with
   | none=>none
   | some (e,s)=>(match e with
    | .normal=>r s
    | .exit i=>some (.exit i,s)
    | .ret=>some (.ret,s))) j k)=some (e,f)->Aq f/\(Nat.rec (motive:=fun _=>St D->Option (Ex×St D)) (fun _=>none) (fun _ r s=>match UN T S Γ n m b s with
   | none=>none
   | some (e,s)=>(match e with
    | .normal=>r s
    | .exit i=>some (.exit i,s)
    | .ret=>some (.ret,s))) j k.s)=some (e,f.s):=by
   intro j;induction j with
   | zero=>intro k _ h;cases h
   | succ j F=>
    intro k d h;dsimp only at h⊢;split at h
    ·cases h
    ·rename_i u v p;obtain⟨q,u2⟩:=r d p;rw[u2];cases u with
     | normal=>exact F v q h
     | exit i=>injection h with h;injection h with g o;subst g o;exact⟨q,rfl⟩
     | ret=>injection h with h;injection h with g o;subst g o;exact⟨q,rfl⟩
  exact C m k d h
 | exit id=>intro k f e d h;injection h with h;injection h with p t;subst p t;exact⟨d,rfl⟩
 | ret=>intro k f e d h;injection h with h;injection h with p t;subst p t;exact⟨d,rfl⟩
 | scope b r=>intro k f e d h;exact r d h
 | label l=>intro k f e d h;injection h with h;injection h with p t;subst p t;exact⟨d,rfl⟩
 | _=>intro k f e d h;cases h
theorem aeQ:∀(args:List (Sl D)) (i:Nat) (t a:oP (Sl D)),((args.zipIdx i).foldl (fun k p=>match k with
  | none=>none
  | some c=>aaW c p.2 p.1) (some t))=some a->∀n,Aj a n=if i<=n/\n < i+args.length then(args[n - i]?).getD (.one (.lf .any))else Aj t n
 | [],i,t,a,h,n=>by
  injection h with h
  subst h;rw[lW oI]
 | x::r,i,t,a,h,n=>by
  rw[List.zipIdx_cons,List.foldl_cons]at h;dsimp only at h;cases b:aaW t i x with
  | none=>
   rw[b]at h;have:∀(l:List (Sl D×Nat)),(l.foldl (fun(k:Option (oP (Sl D))) p=>match k with
     | none=>none
     | some c=>aaW c p.2 p.1) none)=none:=by
    intro l;induction l with
    | nil=>rfl
    | cons y l f=>exact f
   rw[this]at h;cases h
  | some t1=>
   rw[b]at h;rw[aeQ r (i+1) t1 a h n,VL b];simp only[AB];by_cases e:i+1<=n/\n < i+1+r.length
   ·rw[mV e,mV au,show n - i=(n - (i+1))+1 by omega];simp
   ·rw[lW e];by_cases d:n=i
    ·subst d;rw[upd_same,mV au];simp
    ·rw[bM _ _ _ _ d,lW au]
theorem Ve:∀(args:List (Sl D)) (i n:Nat),look (.one (.lf .any)) (NF i args) n=if i<=n/\n < i+args.length then(args[n - i]?).getD (.one (.lf .any))else .one (.lf .any)
 | [],i,n=>by simp[NF,look]
 | x::r,i,n=>by
  simp only[NF,look,AB];by_cases a:n=i
  ·subst a;rw[mV oI,mV au];simp
  ·have:¬(n.beq i=true):=fun e=>a (Qa e)
   rw[lW this,Ve r (i+1) n];by_cases b:i+1<=n/\n < i+1+r.length
   ·rw[mV b,mV au,show n - i=(n - (i+1))+1 by omega];simp
   ·rw[lW b,lW au]
theorem Yd:∀(a:List (Bk D)) (i:Nat) (f:Nat->Option (Bk D)) (n:Nat),kw f (sW i a) n=if i<=n/\n < i+a.length then a[n - i]? else f n
 | [],i,f,n=>by
  rw[lW (by simp only[yz];omega)];rfl
 | b::r,i,f,n=>by
  show kw (upd f i (some b)) (sW (i+1) r) n=_
  rw[Yd r (i+1) _ n];simp only[AB];by_cases d:i+1<=n/\n < i+1+r.length
  ·rw[mV d,mV au,show n - i=(n - (i+1))+1 by omega];simp
  ·rw[lW d];by_cases c:n=i
   ·subst c;rw[upd_same,mV au];simp
   ·rw[bM _ _ _ _ c,lW au]
theorem ax3 {args:List (Sl D)}{a:List (Bk D)}{k:Kt D}(h:Kt.init args a=some k):Aq k/\k.s=St.init args a:=by
 unfold Kt.init at h;cases d:(args.zipIdx.foldl (fun k p=>match k with
  | none=>none
  | some b=>aaW b p.2 p.1) (some (.leaf:oP (Sl D))))with
 | none=>rw[d]at h;cases h
 | some b=>
  rw[d]at h;cases c:agy .leaf (sW 0 a)with
  | none=>rw[c]at h;cases h
  | some f=>
   rw[c]at h;injection h with h
   subst h;refine⟨⟨?_,?_⟩,rfl⟩
   ·funext n;show Aj b n=look _ (NF 0 args) n
    rw[aeQ args 0 .leaf b d n,Ve];rfl
   ·funext n;show zS f n=look none (sW 0 a) n
    rw[UW c,Yd,G5];simp only[vP,true_and,FQ,if_true];by_cases e:n < a.length
    ·rw[mV e]
    ·rw[lW e,Qbw au];rfl
end
end Go.Vc
namespace Go.Vc
open Go.RowKit
section
variable {D:Type}
def aa1 (a:Nat->Option (Bk D))(l:Nat):List Nat:=
 match a l with
 | some b=>b.refs
 | none=>[]
def JJ (ids:List Nat):Nat->Bool
 | 0=>true
 | n+1=>(match ids[n]? with
  | some l=>Nat.beq l n
  | none=>false) && JJ ids n
def asZ (a:List Nat)(b i:Nat):Bool:=Nat.blt i b && !qK i a
def JP (a:Nat->Option (Bk D))(l:Nat):Option (Bk D):=
 match a l with
 | some b=>if b.refs.all fun r=>(a r).isSome then some b else none
 | none=>none
def aeD (a:Nat->Option (Bk D)):Nat->Option (Bk D):=JP (JP a)
def TP (b:Nat->Option (Bk D))(ids a:List Nat)(c:Nat):List Nat->Nat->List (Nat×Bk D)
 | [],_=>[]
 | l::r,i=>(match asZ a c i,b l with
  | false,some d=>(i,d.ren (iQ ids))::TP b ids a c r (i+1)
  | _,_=>TP b ids a c r (i+1))
def apU (b:Nat->Option (Bk D))(a:List Nat)(c:Nat):List Nat:=(List.range c).filter fun i=>asZ a c i && (b i).isSome
def aEx (us:List (Sv D)):Sl D:=
 match us with
 | [u]=> .one u
 | us=> .sO us
abbrev ac6 (D:Type):=Sl D×List (Nat×Bk D)×List Nat
def ZG (T:TypeId->Option Ty)(S:Sh D)(d:List ResultVar)(a:Nat)(s:St D):Tr D (ac6 D):=
 match yK T S s d with
 | none=> .halt 603 s
 | some c=>
  let ids:=reach s.blk 5 (lN (List.range a) (c.flatMap Sv.refs))
  let b:=(s.blks.take (s.blks.length - a)).map (·.1)
  if JJ ids a && allIn ids (c.flatMap Sv.refs) && allIn ids (ids.flatMap (aa1 s.blk))then
   .ret (aEx (c.map (Sv.ren (iQ ids))),TP (aeD s.blk) ids b a ids 0,apU (aeD s.blk) b a)
  else .halt 605 s
def ai_ (T:TypeId->Option Ty)(S:Sh D)(a:List ResultVar)(b:Nat):Ex->St D->Tr D (ac6 D)
 | .normal,s=>ZG T S a b s
 | .ret,s=>ZG T S a b s
 | .exit _,s=> .halt 604 s
noncomputable def aFo (T:TypeId->Option Ty)(S:Sh D)(a:Nat->Sl D)(b:Nat->Option (Bk D)):ResultVar->Option (Sv D)
 | .tmp t=>(match a t with
  | .one u=>some u
  | _=>none)
 | .cell t c=>(match xO T S b c (a t)with
  | some ⟨none, .one u,_⟩=>some u
  | _=>none)
noncomputable def ak9 (T:TypeId->Option Ty)(S:Sh D)(b:Nat->Sl D)(a:Nat->Option (Bk D)):List ResultVar->Option (List (Sv D))
 | []=>some []
 | r::d=>(match aFo T S b a r,ak9 T S b a d with
  | some u,some c=>some (u::c)
  | _,_=>none)
noncomputable def ays (T:TypeId->Option Ty)(S:Sh D)(d:List ResultVar)(a:Nat)(k:Kt D):Option (ac6 D):=
 match ak9 T S (Aj k.sl) (zS k.bl) d with
 | none=>none
 | some c=>
  let ids:=reach (zS k.bl) 5 (lN (List.range a) (c.flatMap Sv.refs))
  let b:=(k.s.blks.take (k.s.blks.length - a)).map (·.1)
  if JJ ids a && allIn ids (c.flatMap Sv.refs) && allIn ids (ids.flatMap (aa1 (zS k.bl)))then
   some (aEx (c.map (Sv.ren (iQ ids))),TP (aeD (zS k.bl)) ids b a ids 0,apU (aeD (zS k.bl)) b a)
  else none
noncomputable def aAz (T:TypeId->Option Ty)(S:Sh D)(a:List ResultVar)(b:Nat):Ex->Kt D->Option (ac6 D)
 | .normal,s=>ays T S a b s
 | .ret,s=>ays T S a b s
 | .exit _,_=>none
theorem av9 {T:TypeId->Option Ty}{S:Sh D}{s:St D}{r:ResultVar}{u:Sv D}(h:aFo T S s.slot s.blk r=some u):Tz T S s r=some u:=by
 cases r with
 | tmp t=>exact h
 | cell t c=>
  simp only[aFo]at h;simp only[Tz];split at h
  ·rename_i x b a;rw[a];exact h
  ·cases h
theorem aeT {T:TypeId->Option Ty}{S:Sh D}{s:St D}:∀{b:List ResultVar} {a:List (Sv D)},ak9 T S s.slot s.blk b=some a->yK T S s b=some a
 | [],a,h=>h
 | r::b,a,h=>by
  unfold ak9 at h;split at h
  ·rename_i u e d c;unfold yK;rw[av9 d,aeT c];exact h
  ·cases h
theorem aoy {T:TypeId->Option Ty}{S:Sh D}{b:List ResultVar}{a:Nat}{e:Ex}{k:Kt D}{r:ac6 D}(d:Aq k)(h:aAz T S b a e k=some r):(ai_ T S b a e k.s).go=some r:=by
 have c:ays T S b a k=some r->(ZG T S b a k.s).go=some r:=by
  intro h;unfold ays at h;unfold ZG;rw[d.sl,d.bl]at h;split at h
  ·cases h
  ·rename_i j f;rw[aeT f];dsimp only at h⊢;split at h
   ·rename_i g;rw[mV g];exact h
   ·cases h
 cases e with
 | normal=>exact c h
 | ret=>exact c h
 | exit i=>cases h
noncomputable def ctU (T:TypeId->Option Ty)(S:Sh D)(f:FuncId->Option (Ct D))(m:Nat)(a:Func):Ct D:=fun args d=>
 if Nat.ble args.length a.ntmps then
  (match Kt.init args d with
  | none=>none
  | some k=>(match evK T S f a.ntmps m (wC a) k with
   | none=>none
   | some (e,k)=>(match aAz T S a.results.toList d.length e k with
    | none=>none
    | some (r,c,b)=>some (none,r,c,b))))else none
end
section
variable {D:Type}{P:Program}{S:Sh D}{T:TypeId->Option Ty}{Γ:FuncId->Option (Ct D)}{N:Nat->Prop}{w w':World}{w0:Bs}{g0:Nat->Option Value}{n:Nat}{al:Nat->Prop}{g:Nat->Option Value}{blk:Nat->Option (Bk D)}{ids:List Nat}
theorem Vh:∀{n:Nat},JJ ids n=true->∀i,i < n->ids[i]? =some i
 | 0,_,i,h=>by omega
 | n+1,h,i,c=>by
  simp only[JJ,iT]at h;by_cases a:i=n
  ·subst a;have:=h.1;split at this
   ·rename_i l b;rw[b,Qa this]
   ·cases this
  ·exact Vh h.2 i au
theorem akR {f:Nat->Nat}:∀{l:List Nat},(∀x∈l,f x=x)->l.map f=l
 | [],_=>rfl
 | x::r,h=>by rw[H7,h x oI,akR fun y hy=>h y qcw]
theorem Lf.Wy {f:Nat->Nat}{x:Lf D}(h:∀l∈x.refs,f l=l):x.ren f=x:=by
 cases x<;>simp only[Lf.ren]<;>simp only[Lf.refs,BH,forall_eq]at h<;>first | rw[h] | (rw[akR h]) | rfl
theorem GR {f:Nat->Nat}:∀{a:List (Lf D)},(∀l∈a.flatMap Lf.refs,f l=l)->a.map (Lf.ren f)=a
 | [],_=>rfl
 | x::a,h=>by
  rw[H7,Lf.Wy fun l hl=>h l qcl,GR fun l hl=>h l (by simp only[Qbm,u_];exact .inr hl)]
theorem Bk.Wy {f:Nat->Nat}{a:Bk D}(h:∀l∈a.refs,f l=l):a.ren f=a:=by
 cases a with
 | cells cs=>simp only[Bk.ren];rw[GR h]
 | tc t cs=>simp only[Bk.ren];rw[GR h]
 | _=>rfl
theorem Vu {c:List Nat}{f:Nat}:∀(r:List Nat) (i k:Nat) (b:Bk D),jM (TP blk ids c f r i) k=some b->∃l a,r[k - i]? =some l/\i<=k/\blk l=some a/\b=a.ren (iQ ids)
 | [],i,k,b,h=>by cases h
 | l::r,i,k,b,h=>by
  have next:jM (TP blk ids c f r (i+1)) k=some b->∃d a,(l::r)[k - i]? =some d/\i<=k/\blk d=some a/\b=a.ren (iQ ids):=fun h=>by
   obtain⟨d,a,n,o,j,m⟩:=Vu r (i+1) k b h;exact⟨d,a,by rw[show k - i=(k - (i+1))+1 by omega];simpa using n,by omega,j,m⟩
  unfold TP at h;split at h
  ·rename_i a p g;unfold jM at h;split at h
   ·rename_i e;have e:=Qa e;subst e;injection h with h
    exact⟨l,a,by simp,oC _,g,h.symm⟩
   ·exact next h
  ·exact next h
theorem Ya {l:Nat}{a:Bk D}(h:JP blk l=some a):blk l=some a:=by
 unfold JP at h;split at h
 ·rename_i b c;split at h
  ·rw[c];exact h
  ·cases h
 ·cases h
theorem amE {l:Nat}{a:Bk D}(h:aeD blk l=some a):blk l=some a:=Ya (Ya h)
theorem Uk {d:Nat->Option (Bk D)}(j:∀i c,d i=some c->∃l a,ids[i]? =some l/\blk l=some a/\c=a.ren (iQ ids)):∀b,aV N d (gc g ids) b->aV N blk g b:=by
 rintro b (k | ⟨i,v,q,m,n⟩)
 ·exact .inl k
 ·obtain⟨c,h,o⟩:=jJ q;obtain⟨l,a,p,e,rfl⟩:=j i c h;refine .inr ⟨l,v,?_,by simpa[gc,p]using m,n⟩;rw[e];have:=Iy (f:=iQ ids) (some a);simp only[H6]at this;rw[<-this];exact o
theorem Hp.named (h:Hp S w0 N blk g al w){q:Nat->Option (Bk D)}(A:ids.Nodup)(e:∀i m,q i=some m->∃l a,ids[i]? =some l/\blk l=some a/\m=a.ren (iQ ids))(p:∀l∈ids,∀m,blk l=some m->∀r∈m.refs,r∈ids):
  Hp S w0 N q (gc g ids) (fun _=>True) w:=by
 have s:∀a:Bk D,hot (some (a.ren (iQ ids)))=true->hot (some a)=true:=fun a t=>by
  have:=Iy (f:=iQ ids) (some a);simp only[H6]at this;rw[<-this];exact t
 refine⟨h.below,h.hN,?_,?_,fun _ _ _=>trivial,?_,h.gl.mono fun b o=>Uk e b o⟩
 ·intro i m c;obtain⟨l,a,d,k,rfl⟩:=e i m c;obtain⟨v,G,F⟩:=h.dn l a k;refine⟨v,by simp[gc,d,G],F.ren (fun x n u O=> ?_) (fun _ b o=>Uk e b o) (fun t b o=>(h.mine (by rw[k];exact t) G o).2)⟩;rw[aav (p l (Qbl d) a k x n)];exact O
 ·intro i j Q R b c P B L E H;obtain⟨K,C,J⟩:=jJ c;obtain⟨I,z,y⟩:=jJ P;obtain⟨l,a,d,k,rfl⟩:=e i K C;obtain⟨x,T,n,M,rfl⟩:=e j I z;have:=h.sep l x Q R b (by rw[k];exact s _ J) (by rw[M];exact s _ y) (by simpa[gc,d]using B) (by simpa[gc,n]using L) E H;subst this;rw[<-Dp A d,<-Dp A n]
 ·intro i v c;simp only[gc]at c;cases d:ids[i]? with
  | none=>rw[d]at c;cases c
  | some l=>rw[d]at c;exact h.refs l v c
theorem atM {M:Nat->Prop}{b:List (Sv D)}{a:List Value}(h:iF S M w g b a):(aEx b).Rel S M w g (if h:a.toArray.size=1 then a.toArray[0]else .tuple a.toArray):=by
 match b,a,h with
 | [],[],h=>exact⟨[],rfl,trivial⟩
 | [u],[v],h=>exact h.1
 | u::d::b,v::c::a,h=>
  have:¬(v::c::a).toArray.size=1:=by simp
  rw[dif_neg this];exact⟨v::c::a,rfl,h⟩
theorem Hf {s:St D}{a:Act}{Q:Func}{c:List (Bk D)}{r:Sl D}{o:List (Nat×Bk D)}{m:List Nat}(aa:∀t Y,T t=some Y->fB P t Y)(V:∀l v,g0 l=some v->l < c.length)(R:∀(l:Nat) (e:Bk D),c[l]? =some e->∀r∈e.refs,r < c.length)
  (j:∃q,s.blks=q++sW 0 c) (h:nR S w0 g0 N n s a w) {e0:ac6 D} (d:(ZG T S Q.results.toList c.length s).run e0=some (r,o,m)):
  a.defers=[]/\∃v,(results Q a.tmps).run P w= .ok v w/\∃A,More g0 A/\Hp S w0 N (rC o m c) A (fun _=>True) w/\r.Rel S (aV N (rC o m c) A) w A v:=by
 obtain⟨g,hp,hs,hn,X,hm⟩:=h;unfold ZG at d;split at d
 ·cases d
 rename_i Z W;obtain⟨J,K,O⟩:=DY aa hp hs _ Z W;dsimp only at d;split at d
 ·rename_i hc;injection d with d
  injection d with q1 d
  injection d with q2 q3
  simp only[iT]at hc;obtain⟨⟨x,I⟩,H⟩:=hc;generalize Xg:reach s.blk 5 (lN (List.range c.length) (Z.flatMap Sv.refs))=ids at*;generalize C:(s.blks.take (s.blks.length - c.length)).map (·.1)=M at*;have G:ids.Nodup:=by
   rw[<-Xg];exact DV _ _ (pO _ _ List.nodup_range)
  have x:=Vh x;have I:=ry I;have H:=ry H;have z:∀l∈ids,∀e,s.blk l=some e->∀r∈e.refs,r∈ids:=fun l p e L r d=>H r (vS.2 ⟨l,p,by simp only[aa1,L];exact d⟩)
  obtain⟨q,j⟩:=j;have ab:∀(c:List (Bk D)) (i:Nat),(sW i c).length=c.length:=fun c=>by
   induction c with
   | nil=>intro i;rfl
   | cons b r ih=>intro i;simp[sW,ih]
  have hk:M=q.map (·.1):=by
   rw[<-C,j];simp[ab]
  have F:∀i e,rC o m c i=some e->∃l B,ids[i]? =some l/\s.blk l=some B/\e=B.ren (iQ ids):=by
   intro i e k;unfold rC at k;split at k
   ·rename_i bk' E;injection k with k
    subst k;rw[<-q2]at E;obtain⟨l,B,h1,_,h3,h4⟩:=Vu _ _ _ _ E;exact⟨l,B,by simpa using h1,amE h3,h4⟩
   ·split at k
    ·rename_i f;have f:=gz.1 f;rw[<-q3]at f;unfold apU at f;obtain⟨m1,y⟩:=Qb1.1 f;have y:=(Bool.and_eq_true_iff.1 y).1;simp only[asZ,iT,Qbi]at y;have U:i < c.length:=by simpa[CE]using y.1
     have hno:i∉q.map (·.1):=by rw[<-hk];exact J8 y.2
     refine⟨i,e,x i U,?_,(Bk.Wy fun l p=> ?_).symm⟩
     ·show look none s.blks i=some e
      rw[j,pG,lW hno,LD];exact k
     ·exact Dp G (x l (R i e k l p))
    ·cases k
  refine⟨X,if h:J.toArray.size=1 then J.toArray[0]else .tuple J.toArray,?_,gc g ids,fun l v p=> ?_,hp.named G F z,?_⟩
  ·unfold results;rw[Sem.run_bind,Qda,Sem.run_map];change (((Sem.run P (Q.results.toList.mapM (Ls a.tmps)) w).andThen fun a w'=>Result.ok a.toArray w').andThen _)=_;rw[K];rfl
  ·simp only[gc,x l (V l v p),Option.bind_some];exact hm l v p
  ·rw[<-q1];refine atM (O.ren (fun l p u hu=> ?_) fun _ b L=>Uk F b L);rw[aav (I l p)];exact hu
 ·cases d
theorem aB7 {f:FuncId}{n:Func}{m:Nat}(aa:P.follows .mixedOrders=true)(I:∀t ty,T t=some ty->fB P t ty)(Y:∀f ct,Γ f=some ct->dJ P S f ct)(hS:iL S)(hf:P.funcs[f]? =some n)(hc:uB n=true)(hid:zT (wC n)=true):dJ P S f (ctU T S Γ m n):=by
 simp only[uB,iT,Qe,ne_eq]at hc;obtain⟨Q,L,E⟩:=hc;obtain⟨c,z⟩:=Qbs.1 Q;have hbf:wC n=c:=by simp[wC,z]
 refine⟨fun args w=>by simp[callFunc,hf,L,z],fun X N g w args lq o p r post kp O R a hpre=> ?_⟩;unfold ctU at a;split at a
 ·rename_i x;have x:=U5 x;split at a
  ·cases a
  rename_i k0 Z;obtain⟨i1,i2⟩:=ax3 Z;split at a
  ·cases a
  rename_i e1 k1 F;rw[aFd]at F;obtain⟨v1,W⟩:=awm _ i1 F;rw[i2]at W;split at a
  ·cases a
  ·rename_i M h j k;have k:=aoy v1 k;injection a with a
   injection a with q1 a
   injection a with q2 a
   injection a with q3 q4
   subst q1 q2 q3 q4;rw[<-aE4 (K:=ai_ T S n.results.toList o.length) _ hid W]at k;have k:=Tr.We _ _ k;rw[hbf]at k E;have y:∀l v,g l=some v->l < o.length:=O.al;have U:∀(l:Nat) (C:Bk D),o[l]? =some C->∀r∈C.refs,r < o.length:=fun l C z r q=>by
    obtain⟨v,hv,H⟩:=O.dn l C z;cases C with
    | cells cs=>
     obtain⟨b,vs,t,_,_,_,B⟩:=H;obtain⟨u,J⟩:=aZ.gY B r q;exact y r u J
    | row e d=>simp[Bk.refs]at q
    | uZ d=>simp[Bk.refs]at q
    | iter s p=>simp[Bk.refs]at q
    | map kvs=>simp[Bk.refs]at q
    | tc t cs=>
     obtain⟨b,vs,_,_,_,B⟩:=H;obtain⟨u,J⟩:=aZ.gY B r q;exact y r u J
   refine calls_of_wp hf z (IW aIQ aa I Y hS (w0:=⟨w,X⟩) (N:=N) c _ _ _ _ _ _ _ w E k (BN O R x) fun e s' a' w' h' V _ A=> ?_);have G:(ZG T S n.results.toList o.length s').run (M,h,j)=some (M,h,j)->a'.defers=[]/\∃v,(results n a'.tmps).run P w'= .ok v w'/\∃v' g',Ending.returned v= .returned v'/\More g g'/\Hp S ⟨w,X⟩ N (rC h j o) g' (fun _=>True) w'/\
     M.Rel S (aV N (rC h j o) g') w' g' v':=by
    intro A;obtain⟨Q,v,L,g',E,h4,h5⟩:=Hf I y U V h' A;exact⟨Q,v,L,v,g',rfl,E,h4,h5⟩
   cases e with
   | normal=>exact G A
   | ret=>exact G A
   | exit i=>cases A
 ·cases a
def ayO (P:Program)(f:FuncId):Option Func:=
 match P.funcs[f]? with
 | some a=>if uB a && zT (wC a)then some a else none
 | none=>none
noncomputable def WN (P:Program)(T:TypeId->Option Ty)(S:Sh D)(ext:FuncId->Option (Ct D))(m:Nat):Nat->FuncId->Option (Ct D)
 | 0,_=>none
 | k+1,f=>(match ext f with
  | some b=>(match ayO P f with
   | some a=>some (aoq b (ctU T S (WN P T S ext m k) m a))
   | none=>some b)
  | none=>(match ayO P f with
   | some a=>some (ctU T S (WN P T S ext m k) m a)
   | none=>none))
theorem aiJ {ext:FuncId->Option (Ct D)}{m:Nat}(l:P.follows .mixedOrders=true)(i:∀t o,T t=some o->fB P t o)(p:iL S)(b:∀f e,ext f=some e->dJ P S f e):∀(k:Nat) (f:FuncId) (e:Ct D),WN P T S ext m k f=some e->dJ P S f e
 | 0,f,e,h=>by cases h
 | k+1,f,e,h=>by
  have j:∀d,ayO P f=some d->dJ P S f (ctU T S (WN P T S ext m k) m d):=fun d a=>by
   unfold ayO at a;split at a
   ·rename_i r q;split at a
    ·rename_i g;injection a with a
     subst a;rw[iT]at g;exact aB7 l i (aiJ l i p b k) p q g.1 g.2
    ·cases a
   ·cases a
  unfold WN at h;split at h
  ·rename_i c n;split at h
   ·rename_i d a;injection h with h
    subst h;exact Zl (b f c n) (j d a)
   ·injection h with h
    subst h;exact b f c n
  ·split at h
   ·rename_i d a;injection h with h
    subst h;exact j d a
   ·cases h
end
end Go.Vc

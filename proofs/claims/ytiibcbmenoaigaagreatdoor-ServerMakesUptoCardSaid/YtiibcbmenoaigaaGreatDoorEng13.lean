/- Own engine: Vef, Vde. -/
import Derived.Test.YtiibcbmenoaigaaGreatDoorEng12
namespace Go.Vc
open Go.RowKit
set_option linter.unusedVariables false
set_option linter.unusedSimpArgs false
inductive Tri (α:Type) where
 | leaf
 | node (v:Option α) (l r:Tri α)
section
variable {α:Type}
def Tri.v:Tri α->Option α
 | .leaf=>none
 | .node v _ _=>v
def Tri.l:Tri α->Tri α
 | .leaf=> .leaf
 | .node _ l _=>l
def Tri.r:Tri α->Tri α
 | .leaf=> .leaf
 | .node _ _ r=>r
noncomputable def Tri.get (t:Tri α):Nat->Option α:=
 Tri.rec (motive:=fun _=>Nat->Option α) (fun _=>none) (fun v _ _ ihl ihr n=>Bool.rec (motive:=fun _=>Option α) (Bool.rec (motive:=fun _=>Option α) (ihr (Nat.div n 2)) (ihl (Nat.div n 2)) (Nat.beq (Nat.mod n 2) 0)) v (Nat.beq n 0)) t
noncomputable def Tri.set (k:Nat):Tri α->Nat->α->Tri α:=
 Nat.rec (motive:=fun _=>Tri α->Nat->α->Tri α) (fun t _ _=>t) (fun _ ih t n x=>Tri.rec (motive:=fun _=>Tri α)
  (Bool.rec (motive:=fun _=>Tri α) (Bool.rec (motive:=fun _=>Tri α) (.node none .leaf (ih .leaf (Nat.div n 2) x)) (.node none (ih .leaf (Nat.div n 2) x) .leaf) (Nat.beq (Nat.mod n 2) 0)) (.node (some x) .leaf .leaf) (Nat.beq n 0))
  (fun v l r _ _=>Bool.rec (motive:=fun _=>Tri α) (Bool.rec (motive:=fun _=>Tri α) (.node v l (ih r (Nat.div n 2) x)) (.node v (ih l (Nat.div n 2) x) r) (Nat.beq (Nat.mod n 2) 0)) (.node (some x) l r) (Nat.beq n 0)) t) k
theorem Tri.get_eq (t:Tri α)(n:Nat):t.get n=cond (Nat.beq n 0) t.v (cond (Nat.beq (n % 2) 0) (t.l.get (n / 2)) (t.r.get (n / 2))):=by
 cases t with
 | leaf=>
  show none=_
  cases Nat.beq n 0<;>cases Nat.beq (n % 2) 0<;>rfl
 | node v l r=>
  show Bool.rec (motive:=fun _=>Option α) (Bool.rec (motive:=fun _=>Option α) (r.get (n / 2)) (l.get (n / 2)) (Nat.beq (n % 2) 0)) v (Nat.beq n 0)=cond (Nat.beq n 0) v (cond (Nat.beq (n % 2) 0) (l.get (n / 2)) (r.get (n / 2)))
  cases Nat.beq n 0<;>cases Nat.beq (n % 2) 0<;>rfl
theorem Tri.set_succ (k:Nat)(t:Tri α)(n:Nat)(x:α):Tri.set (k+1) t n x=cond (Nat.beq n 0) (.node (some x) t.l t.r) (cond (Nat.beq (n % 2) 0) (.node t.v (Tri.set k t.l (n / 2) x) t.r) (.node t.v t.l (Tri.set k t.r (n / 2) x))):=by
 cases t with
 | leaf=>
  show Bool.rec (motive:=fun _=>Tri α) (Bool.rec (motive:=fun _=>Tri α) (.node none .leaf (Tri.set k .leaf (n / 2) x)) (.node none (Tri.set k .leaf (n / 2) x) .leaf) (Nat.beq (n % 2) 0)) (.node (some x) .leaf .leaf) (Nat.beq n 0)=_
  cases Nat.beq n 0<;>cases Nat.beq (n % 2) 0<;>rfl
 | node v l r=>
  show Bool.rec (motive:=fun _=>Tri α) (Bool.rec (motive:=fun _=>Tri α) (.node v l (Tri.set k r (n / 2) x)) (.node v (Tri.set k l (n / 2) x) r) (Nat.beq (n % 2) 0)) (.node (some x) l r) (Nat.beq n 0)=_
  cases Nat.beq n 0<;>cases Nat.beq (n % 2) 0<;>rfl
theorem beq_cases (n m:Nat):(Nat.beq n m=true/\n=m)\/(Nat.beq n m=false/\n≠m):=by
 cases h:Nat.beq n m with
 | true=>exact .inl ⟨rfl,Nat.eq_of_beq_eq_true h⟩
 | false=>exact .inr ⟨rfl,fun e=>by rw[e]at h;simp at h⟩
theorem Tri.get_node (v:Option α)(l r:Tri α)(n:Nat):(Tri.node v l r).get n=cond (Nat.beq n 0) v (cond (Nat.beq (n % 2) 0) (l.get (n / 2)) (r.get (n / 2))):=Tri.get_eq _ _
theorem Tri.get_set:∀(k:Nat) (t:Tri α) (n m:Nat) (x:α),n < 2 ^ k->(Tri.set (k+1) t n x).get m=if m=n then some x else t.get m:=by
 intro k
 induction k with
 | zero=>
  intro t n m x h
  have hn:n=0:=by simpa using h
  subst hn
  rw[Tri.set_succ,Tri.get_eq t m]
  show(Tri.node (some x) t.l t.r).get m=_
  rw[Tri.get_node]
  rcases beq_cases m 0 with⟨h1,rfl⟩ | ⟨h1,h2⟩
  ·rfl
  ·rw[h1,if_neg h2];rfl
 | succ k ih=>
  intro t n m x h
  rw[Tri.set_succ,Tri.get_eq t m]
  rcases beq_cases n 0 with⟨h1,rfl⟩ | ⟨h1,hn0⟩
  ·rw[h1]
   show(Tri.node (some x) t.l t.r).get m=_
   rw[Tri.get_node]
   rcases beq_cases m 0 with⟨h1,rfl⟩ | ⟨h1,h2⟩
   ·rfl
   ·rw[h1,if_neg h2];rfl
  ·rw[h1]
   have hlt:n / 2 < 2 ^ k:=by rw[Nat.pow_succ]at h;omega
   rcases beq_cases (n % 2) 0 with⟨h2,hp⟩ | ⟨h2,hp⟩<;>rw[h2]<;>simp only[cond_false,cond_true]<;>rw[Tri.get_node]
   ·rcases beq_cases m 0 with⟨h3,rfl⟩ | ⟨h3,hm0⟩
    ·rw[h3,if_neg (Ne.symm hn0)];rfl
    ·rw[h3]
     rcases beq_cases (m % 2) 0 with⟨h4,hq⟩ | ⟨h4,hq⟩
     ·rw[h4]
      simp only[cond_false,cond_true]
      rw[ih _ _ _ _ hlt]
      by_cases e:m=n
      ·subst e;simp
      ·rw[if_neg (show ¬m / 2=n / 2 by omega),if_neg e]
     ·rw[h4,if_neg (show ¬m=n by rintro rfl;omega)];rfl
   ·rcases beq_cases m 0 with⟨h3,rfl⟩ | ⟨h3,hm0⟩
    ·rw[h3,if_neg (Ne.symm hn0)];rfl
    ·rw[h3]
     rcases beq_cases (m % 2) 0 with⟨h4,hq⟩ | ⟨h4,hq⟩
     ·rw[h4,if_neg (show ¬m=n by rintro rfl;omega)];rfl
     ·rw[h4]
      simp only[cond_false,cond_true]
      rw[ih _ _ _ _ hlt]
      by_cases e:m=n
      ·subst e;simp
      ·rw[if_neg (show ¬m / 2=n / 2 by omega),if_neg e]
end
section
variable {D:Type}
structure Kt (D:Type) where
 s:St D
 sl:Tri (Sl D)
 bl:Tri (Option (Bk D))
noncomputable def sget (t:Tri (Sl D))(n:Nat):Sl D:=
 match t.get n with
 | some x=>x
 | none=> .one (.lf .any)
noncomputable def bget (t:Tri (Option (Bk D)))(n:Nat):Option (Bk D):=
 match t.get n with
 | some x=>x
 | none=>none
noncomputable def sset (t:Tri (Sl D))(n:Nat)(x:Sl D):Option (Tri (Sl D)):=cond (Nat.blt n 65536) (some (Tri.set 17 t n x)) none
noncomputable def bset:Tri (Option (Bk D))->List (Nat×Option (Bk D))->Option (Tri (Option (Bk D)))
 | t,[]=>some t
 | t,(n,x)::r=>cond (Nat.blt n 1099511627776) (bset (Tri.set 41 t n x) r) none
noncomputable def Kt.put (k:Kt D)(dst:Option Nat)(v:Sl D)(bs:List (Nat×Option (Bk D))):Option (Kt D):=
 match bset k.bl bs with
 | none=>none
 | some bl=>(match dst with
  | none=>some ⟨k.s.put dst v bs,k.sl,bl⟩
  | some d=>(match sset k.sl d v with
   | none=>none
   | some sl=>some ⟨k.s.put dst v bs,sl,bl⟩))
structure KtOk (k:Kt D):Prop where
 sl:sget k.sl=k.s.slot
 bl:bget k.bl=k.s.blk
def hLoad (T:TypeId->Option Ty)(S:Sh D)(blk:Nat->Option (Bk D))(t:TypeId)(a:Sl D):Option (Out D):=
 match xLoadT T blk t a with
 | some out=>some out
 | none=>(match xLoadA T S blk t a with
  | some out=>some out
  | none=>xLoad T S blk t a)
def hStore (T:TypeId->Option Ty)(S:Sh D)(Γ:FuncId->Option (Ct D))(slot:Nat->Sl D)(blk:Nat->Option (Bk D))(fr:Nat)(t:TypeId)(x y:Operand):Option (Out D):=
 match xStoreT T blk t (opnd slot x) (opnd slot y)with
 | some out=>some out
 | none=>(match xStoreA T S blk t (opnd slot x) (opnd slot y)with
  | some out=>some out
  | none=>(match xStore T S blk t (opnd slot x) (opnd slot y)with
   | some out=>some out
   | none=>xCool T S Γ slot blk fr (.store t x y)))
def hBin (T:TypeId->Option Ty)(S:Sh D)(op:BinOp)(t:TypeId)(a b:Sl D):Option (Out D):=
 match xNilC T S op t a b with
 | some out=>some out
 | none=>firstOf (xNilq T S op t a b) (xBin T op t a b)
def hAddr (T:TypeId->Option Ty)(S:Sh D)(blk:Nat->Option (Bk D))(t:TypeId)(a b:Sl D):Option (Out D):=
 match xAddrC T t a b with
 | some out=>some out
 | none=>(match xIndexA T S t a b with
  | some out=>some out
  | none=>xIndex T S blk t a b)
def hIndex (T:TypeId->Option Ty)(t:TypeId)(a b:Sl D):Option (Out D):=
 match xIndexC T t a b with
 | some out=>some out
 | none=>(match xIndexV T t a b with
  | some out=>some out
  | none=>xStrAt T t a b)
def hNil (a:Sl D):Option (Out D):=
 match a with
 | .one (.lf (.ptr l o))=>lfO none (.ptr l o)
 | .one (.lf (.elt d i j))=>lfO none (.elt d i j)
 | .one (.lf (.opt l i j sz))=>lfO none (.opt l i j sz)
 | .one (.lf (.fn f caps))=>lfO none (.fn f caps)
 | .one (.lf (.xt (.clo f ag ps)))=>lfO none (.xt (.clo f ag ps))
 | _=>none
def hConv (T:TypeId->Option Ty)(S:Sh D)(blk:Nat->Option (Bk D))(s t:TypeId)(a:Sl D):Option (Out D):=
 match xText T S blk s t a with
 | some out=>some out
 | none=>xConv T s t a
def hBox (fr:Nat)(a:Sl D):Option (Out D):=
 match a with
 | .one u=>if u.whole then some ⟨none, .one (.lf (.ptr fr 0)),[(fr,some (.cells u.cells))]⟩else none
 | _=>none
def hFn (Γ:FuncId->Option (Ct D))(blk:Nat->Option (Bk D))(fr:Nat)(a:Sl D)(args:List (Sl D)):Option (Out D):=
 match xCallC Γ blk fr a args with
 | some out=>some out
 | none=>(match a with
  | .one (.lf (.fn f caps))=>if caps.all (fun l=>isCells (blk l))then xCall Γ f blk (args++caps.map fun l=> .one (.lf (.ptr l 0))) fr else none
  | _=>none)
def hCall (T:TypeId->Option Ty)(S:Sh D)(Γ:FuncId->Option (Ct D))(slot:Nat->Sl D)(blk:Nat->Option (Bk D))(fr:Nat)(c:Call):Option (Option (Out D)):=
 match c.callee with
 | .value f=>some (hFn Γ blk fr (opnd slot f) (c.args.toList.map (opnd slot)))
 | .builtin .len=>(match c.args.toList with
  | [x]=>some (xLen S T blk c.argTypes (opnd slot x))
  | _=>none)
 | _=>none
def xHot (T:TypeId->Option Ty)(S:Sh D)(Γ:FuncId->Option (Ct D))(slot:Nat->Sl D)(blk:Nat->Option (Bk D))(fr:Nat)(op:Op):Option (Option (Out D)):=
 match op with
 | .move x=>some (some ⟨none,opnd slot x,[]⟩)
 | .assign x=>some (some ⟨none,opnd slot x,[]⟩)
 | .load t x=>some (hLoad T S blk t (opnd slot x))
 | .store t x y=>some (hStore T S Γ slot blk fr t x y)
 | .fieldAddr t x f=>some (xField T t (opnd slot x) f)
 | .extract x i=>some (xExtract (opnd slot x) i)
 | .binOp op t x y _=>some (hBin T S op t (opnd slot x) (opnd slot y))
 | .unOp op _ x=>some (xUn op (opnd slot x))
 | .indexAddr t x i=>some (hAddr T S blk t (opnd slot x) (opnd slot i))
 | .index t x i=>some (hIndex T t (opnd slot x) (opnd slot i))
 | .nilCheck x=>some (hNil (opnd slot x))
 | .pick c a b=>some (xPick slot c a b)
 | .convert s t x=>some (hConv T S blk s t (opnd slot x))
 | .box _ x=>some (hBox fr (opnd slot x))
 | .call c=>hCall T S Γ slot blk fr c
 | _=>none
noncomputable def stepUK (ops:Array Oper)(draw:Bool)(o:Oper)(i:Nat)(acc:Acc)(k:Kt D)(out:Out D):Option (Acc×Kt D):=
 match okD out.pre with
 | false=>none
 | true=>(match draw with
  | false=>(match k.put o.dst out.val out.blks with
   | none=>none
   | some k=>some (acc,k))
  | true=>(match badB ops acc o (memReads (sget k.sl) (bget k.bl) o.op) (out.blks.map (·.1))with
   | true=>none
   | false=>(match k.put o.dst out.val out.blks with
    | none=>none
    | some k'=>some ((i,memReads (sget k.sl) (bget k.bl) o.op,out.blks.map (·.1))::acc,k'))))
noncomputable def slowUK (T:TypeId->Option Ty)(S:Sh D)(Γ:FuncId->Option (Ct D))(ops:Array Oper)(draw:Bool)(o:Oper)(i:Nat)(acc:Acc)(k:Kt D):Option (Acc×Kt D):=
 match xNext (sget k.sl) (bget k.bl) o.op with
 | some (b,o1,o2)=>stepUK ops draw o i acc k (cond b o1 o2)
 | none=>(match xOpR T S Γ (sget k.sl) (bget k.bl) (k.s.next+64*i) o.op with
  | none=>none
  | some out=>stepUK ops draw o i acc k out)
noncomputable def stepVUK (T:TypeId->Option Ty)(S:Sh D)(Γ:FuncId->Option (Ct D))(ops:Array Oper)(draw:Bool)(o:Oper)(i:Nat)(acc:Acc)(k:Kt D):Option (Acc×Kt D):=
 match xHot T S Γ (sget k.sl) (bget k.bl) (k.s.next+64*i) o.op with
 | some r=>(match r with
  | some out=>stepUK ops draw o i acc k out
  | none=>none)
 | none=>slowUK T S Γ ops draw o i acc k
noncomputable def skipUK (ops:Array Oper)(draw:Bool)(o:Oper)(i:Nat)(acc:Acc)(k:Kt D):Option (Acc×Kt D):=
 match draw with
 | false=>(match k.put o.dst (.one (.lf (.val undef))) []with
  | none=>none
  | some k=>some (acc,k))
 | true=>(match badB ops acc o (memReads (sget k.sl) (bget k.bl) o.op) []with
  | true=>none
  | false=>(match k.put o.dst (.one (.lf (.val undef))) []with
   | none=>none
   | some k'=>some ((i,memReads (sget k.sl) (bget k.bl) o.op,[])::acc,k')))
noncomputable def Kt.tell (k:Kt D)(d:Nat)(b:Bool):Option (Kt D):=
 match sset k.sl d (.one (.lf (.val (.bool b))))with
 | none=>none
 | some sl=>some ⟨⟨(d, .one (.lf (.val (.bool b))))::k.s.tmps,k.s.blks,k.s.next⟩,sl,k.bl⟩
noncomputable def guardUK (T:TypeId->Option Ty)(S:Sh D)(Γ:FuncId->Option (Ct D))(ops:Array Oper)(draw:Bool)(o:Oper)(i:Nat)(acc:Acc)(k:Kt D):Option (Acc×Kt D):=
 match o.guard with
 | none=>stepVUK T S Γ ops draw o i acc k
 | some (j,want)=>(match(ops[j]?).bind (·.dst)with
  | none=>none
  | some d=>(match sget k.sl d with
   | .one (.lf (.bool b))=>(match k.tell d b with
    | none=>none
    | some k=>(match b==want with
     | true=>stepVUK T S Γ ops draw o i acc k
     | false=>skipUK ops draw o i acc k))
   | .one (.lf (.val (.bool b)))=>(match b==want with
    | true=>stepVUK T S Γ ops draw o i acc k
    | false=>skipUK ops draw o i acc k)
   | .one (.lf (.val v))=>(match notBool v with
    | true=>skipUK ops draw o i acc k
    | false=>none)
   | _=>none))
noncomputable def opsUK (T:TypeId->Option Ty)(S:Sh D)(Γ:FuncId->Option (Ct D))(ops:Array Oper)(n:Nat)(draw:Bool):List Oper->Nat->Acc->Kt D->Option (Kt D)
 | [],i,_,k=>some ⟨⟨k.s.tmps,k.s.blks,k.s.next+64*i⟩,k.sl,k.bl⟩
 | o::r,i,acc,k=>
  match dstOk n o.dst with
  | false=>none
  | true=>(match guardUK T S Γ ops draw o i acc k with
   | none=>none
   | some (acc,k)=>opsUK T S Γ ops n draw r (i+1) acc k)
noncomputable def evUK (T:TypeId->Option Ty)(S:Sh D)(Γ:FuncId->Option (Ct D))(n m:Nat):Code->Kt D->Option (Ex×Kt D)
 | .skip,s=>some (.normal,s)
 | .region _ ops draw,s=>(match opsUK T S Γ ops n draw ops.toList 0 [] s with
  | none=>none
  | some s=>some (.normal,s))
 | .seq a b,s=>(match evUK T S Γ n m a s with
  | none=>none
  | some (e,s)=>(match e with
   | .normal=>evUK T S Γ n m b s
   | .exit i=>some (.exit i,s)
   | .ret=>some (.ret,s)))
 | .cond c x y,s=>(match opnd (sget s.sl) c with
  | .one (.lf (.bool b))=>cond b (evUK T S Γ n m x s) (evUK T S Γ n m y s)
  | .one (.lf (.val (.bool b)))=>cond b (evUK T S Γ n m x s) (evUK T S Γ n m y s)
  | _=>none)
 | .block id b,s=>(match evUK T S Γ n m b s with
  | none=>none
  | some (e,s)=>(match e with
   | .normal=>some (.normal,s)
   | .exit j=>(match Nat.beq j id with
    | true=>some (.normal,s)
    | false=>some (.exit j,s))
   | .ret=>some (.ret,s)))
 | .loop b,s=>(match Nat.blt (loopId b) 100000 with
  | false=>none
  | true=>Nat.rec (motive:=fun _=>Kt D->Option (Ex×Kt D)) (fun _=>none) (fun _ ih s=>match evUK T S Γ n m b s with
   | none=>none
   | some (e,s)=>(match e with
    | .normal=>ih s
    | .exit i=>some (.exit i,s)
    | .ret=>some (.ret,s))) m s)
 | .exit id,s=>some (.exit id,s)
 | .ret,s=>some (.ret,s)
 | .scope b,s=>evUK T S Γ n m b s
 | .label _,s=>some (.normal,s)
 | _,_=>none
abbrev Ru (D:Type):=Kt D->Option (Ex×Kt D)
noncomputable def kSkip:Ru D:=fun s=>some (.normal,s)
noncomputable def kRegion (T:TypeId->Option Ty)(S:Sh D)(Γ:FuncId->Option (Ct D))(n:Nat)(ops:Array Oper)(draw:Bool):Ru D:=fun s=>
 match opsUK T S Γ ops n draw ops.toList 0 [] s with
 | none=>none
 | some s=>some (.normal,s)
noncomputable def kSeq (a b:Ru D):Ru D:=fun s=>
 match a s with
 | none=>none
 | some (e,s)=>(match e with
  | .normal=>b s
  | .exit i=>some (.exit i,s)
  | .ret=>some (.ret,s))
noncomputable def kCond (c:Operand)(x y:Ru D):Ru D:=fun s=>
 match opnd (sget s.sl) c with
 | .one (.lf (.bool b))=>cond b (x s) (y s)
 | .one (.lf (.val (.bool b)))=>cond b (x s) (y s)
 | _=>none
noncomputable def kBlock (id:Nat)(b:Ru D):Ru D:=fun s=>
 match b s with
 | none=>none
 | some (e,s)=>(match e with
  | .normal=>some (.normal,s)
  | .exit j=>(match Nat.beq j id with
   | true=>some (.normal,s)
   | false=>some (.exit j,s))
  | .ret=>some (.ret,s))
noncomputable def kRound (b ih:Ru D):Ru D:=fun s=>
 match b s with
 | none=>none
 | some (e,s)=>(match e with
  | .normal=>ih s
  | .exit i=>some (.exit i,s)
  | .ret=>some (.ret,s))
noncomputable def kLoop (m:Nat)(c:Code)(b:Ru D):Ru D:=fun s=>
 match Nat.blt (loopId c) 100000 with
 | false=>none
 | true=>Nat.rec (motive:=fun _=>Ru D) (fun _=>none) (fun _ ih=>kRound b ih) m s
noncomputable def kOut (e:Ex):Ru D:=fun s=>some (e,s)
noncomputable def kNone:Ru D:=fun _=>none
noncomputable def evK (T:TypeId->Option Ty)(S:Sh D)(Γ:FuncId->Option (Ct D))(n m:Nat)(c:Code):Ru D:=
 Code.rec (motive:=fun _=>Ru D) kSkip (fun _ ops draw=>kRegion T S Γ n ops draw) (fun _ _ a b=>kSeq a b) (fun c _ _ x y=>kCond c x y) (fun id _ b=>kBlock id b) (fun c b=>kLoop m c b) (fun _ _ _ _ _ _=>kNone)
  (fun id=>kOut (.exit id)) (fun _ b=>b) (fun _=>kSkip) (fun _=>kNone) (kOut .ret) (fun _=>kNone) c
theorem evK_eq (T:TypeId->Option Ty)(S:Sh D)(Γ:FuncId->Option (Ct D))(n m:Nat):∀(c:Code) (s:Kt D),evK T S Γ n m c s=evUK T S Γ n m c s:=by
 intro c
 induction c with
 | seq a b iha ihb=>
  intro s
  show kSeq (evK T S Γ n m a) (evK T S Γ n m b) s=_
  unfold kSeq evUK
  rw[iha]
  split
  ·rfl
  ·rename_i e s1 h1
   cases e with
   | normal=>exact ihb s1
   | _=>rfl
 | cond c x y ihx ihy=>
  intro s
  show kCond c (evK T S Γ n m x) (evK T S Γ n m y) s=_
  unfold kCond evUK
  rw[ihx,ihy]
 | block id b ih=>
  intro s
  show kBlock id (evK T S Γ n m b) s=_
  unfold kBlock evUK
  rw[ih]
 | loop b ih=>
  intro s
  show kLoop m b (evK T S Γ n m b) s=_
  have hb:evK T S Γ n m b=evUK T S Γ n m b:=funext ih
  rw[hb]
  rfl
 | scope b ih=>intro s;exact ih s
 | _=>intro s;rfl
noncomputable def Kt.init (args:List (Sl D))(bks:List (Bk D)):Option (Kt D):=
 (args.zipIdx.foldl (fun k p=>match k with
  | none=>none
  | some sl=>sset sl p.2 p.1) (some .leaf)).bind fun sl=>(bset .leaf (initB 0 bks)).map fun bl=>⟨St.init args bks,sl,bl⟩
end
section
variable {D:Type}{S:Sh D}{T:TypeId->Option Ty}{Γ:FuncId->Option (Ct D)}
theorem sset_get {t t':Tri (Sl D)}{n:Nat}{x:Sl D}(h:sset t n x=some t'):sget t'=upd (sget t) n x:=by
 unfold sset at h
 cases hb:Nat.blt n 65536 with
 | false=>rw[hb]at h;cases h
 | true=>
  rw[hb]at h
  injection h with h
  subst h
  rw[Nat.blt_eq]at hb
  funext m
  unfold sget upd
  rw[Tri.get_set 16 t n m x (by omega)]
  by_cases e:m=n
  ·rw[if_pos e,if_pos e]
  ·rw[if_neg e,if_neg e]
theorem bset_get:∀{bs:List (Nat×Option (Bk D))} {t t':Tri (Option (Bk D))},bset t bs=some t'->bget t'=updL (bget t) bs
 | [],t,t',h=>by injection h with h;subst h;rfl
 | (n,x)::r,t,t',h=>by
  unfold bset at h
  cases hb:Nat.blt n 1099511627776 with
  | false=>rw[hb]at h;cases h
  | true=>
   rw[hb]at h
   rw[Nat.blt_eq]at hb
   have h:bset (Tri.set 41 t n x) r=some t':=h
   rw[bset_get h]
   show _=updL (upd (bget t) n x) r
   congr 1
   funext m
   unfold bget upd
   rw[Tri.get_set 40 t n m x (by omega)]
   by_cases e:m=n
   ·rw[if_pos e,if_pos e]
   ·rw[if_neg e,if_neg e]
theorem put_ok {k k':Kt D}{dst:Option Nat}{v:Sl D}{bs:List (Nat×Option (Bk D))}(hk:KtOk k)(h:k.put dst v bs=some k'):KtOk k'/\k'.s=k.s.put dst v bs:=by
 unfold Kt.put at h
 split at h
 ·cases h
 ·rename_i bl hbl
  have hb:=bset_get hbl
  split at h
  ·injection h with h
   subst h
   refine⟨⟨?_,?_⟩,rfl⟩
   ·rw[put_slot];exact hk.sl
   ·rw[put_blk];show bget bl=_;rw[hb,hk.bl];rfl
  ·rename_i d
   split at h
   ·cases h
   ·rename_i sl hsl
    injection h with h
    subst h
    refine⟨⟨?_,?_⟩,rfl⟩
    ·rw[put_slot];show sget sl=_;rw[sset_get hsl,hk.sl];rfl
    ·rw[put_blk];show bget bl=_;rw[hb,hk.bl];rfl
theorem stepUK_ok {ops:Array Oper}{draw:Bool}{o:Oper}{i:Nat}{acc acc':Acc}{k k':Kt D}{out:Out D}(hk:KtOk k)(h:stepUK ops draw o i acc k out=some (acc',k')):KtOk k'/\stepU T S Γ ops draw o i acc k.s out=some (acc',k'.s):=by
 unfold stepUK at h
 unfold stepU
 rw[hk.sl,hk.bl]at h
 split at h
 ·cases h
 ·rename_i hp
  rw[hp]
  cases draw with
  | false=>
   dsimp only at h⊢
   split at h
   ·cases h
   ·rename_i k1 h1
    injection h with h;injection h with q1 q2;subst q1 q2
    obtain⟨r1,r2⟩:=put_ok hk h1
    exact⟨r1,by rw[r2]⟩
  | true=>
   dsimp only at h⊢
   split at h
   ·cases h
   ·rename_i hb
    rw[hb]
    dsimp only
    split at h
    ·cases h
    ·rename_i k1 h1
     injection h with h;injection h with q1 q2;subst q1 q2
     obtain⟨r1,r2⟩:=put_ok hk h1
     exact⟨r1,by rw[r2]⟩
theorem hot_ok {slot:Nat->Sl D}{blk:Nat->Option (Bk D)}{fr:Nat}{op:Op}{r:Option (Out D)}(h:xHot T S Γ slot blk fr op=some r):xNext slot blk op=none/\xOpR T S Γ slot blk fr op=r:=by
 unfold xHot at h
 split at h
 all_goals first | (cases h;done) | (injection h with h;subst h;refine⟨rfl,?_⟩) | skip
 ·rfl
 ·rfl
 ·rename_i t x
  unfold hLoad
  simp only[xOpR,xNew,xCool2,coolable2,xOpQ,xOpD,xMore,xOpC,xOp,xCool,coolable,Bool.false_and,Bool.false_eq_true,if_false]
  cases xLoadT T blk t (opnd slot x)with
  | some o=>rfl
  | none=>cases xLoadA T S blk t (opnd slot x)with
   | some o=>rfl
   | none=>cases xLoad T S blk t (opnd slot x)<;>rfl
 ·rename_i t x y
  unfold hStore
  simp only[xOpR,xNew,xCool2,coolable2,xOpQ,xOpD,xMore,xOpC,xOp,Bool.false_and,Bool.false_eq_true,if_false]
  cases xStoreT T blk t (opnd slot x) (opnd slot y)with
  | some o=>rfl
  | none=>cases xStoreA T S blk t (opnd slot x) (opnd slot y)with
   | some o=>rfl
   | none=>cases xStore T S blk t (opnd slot x) (opnd slot y)<;>rfl
 ·rename_i t x f
  simp only[xOpR,xNew,xCool2,coolable2,xOpQ,xOpD,xMore,xOpC,xOp,xCool,coolable,Bool.false_and,Bool.false_eq_true,if_false]
  cases xField T t (opnd slot x) f<;>rfl
 ·rename_i x i
  simp only[xOpR,xNew,xCool2,coolable2,xOpQ,xOpD,xMore,xOpC,xOp,xCool,coolable,Bool.false_and,Bool.false_eq_true,if_false]
  cases xExtract (opnd slot x) i<;>rfl
 ·rename_i op t x y yt
  unfold hBin
  simp only[xOpR,xNew,xCool2,coolable2,xOpQ,xOpD,xMore,xOpC,xOp,xCool,coolable,Bool.false_and,Bool.false_eq_true,if_false]
  cases xNilC T S op t (opnd slot x) (opnd slot y)with
  | some o=>rfl
  | none=>cases firstOf (xNilq T S op t (opnd slot x) (opnd slot y)) (xBin T op t (opnd slot x) (opnd slot y))<;>rfl
 ·rename_i op t x
  simp only[xOpR,xNew,xCool2,coolable2,xOpQ,xOpD,xMore,xOpC,xOp,xCool,coolable,Bool.false_and,Bool.false_eq_true,if_false]
  cases xUn op (opnd slot x)<;>rfl
 ·rename_i t x i
  unfold hAddr
  simp only[xOpR,xNew,xCool2,coolable2,xOpQ,xOpD,xMore,xOpC,xOp,xCool,coolable,Bool.false_and,Bool.false_eq_true,if_false]
  cases xAddrC T t (opnd slot x) (opnd slot i)with
  | some o=>rfl
  | none=>cases xIndexA T S t (opnd slot x) (opnd slot i)with
   | some o=>rfl
   | none=>cases xIndex T S blk t (opnd slot x) (opnd slot i)<;>rfl
 ·rename_i t x i
  unfold hIndex
  simp only[xOpR,xNew,xCool2,coolable2,xOpQ,xOpD,xMore,xOpC,xOp,xCool,coolable,Bool.false_and,Bool.false_eq_true,if_false]
  cases xIndexC T t (opnd slot x) (opnd slot i)with
  | some o=>rfl
  | none=>cases xIndexV T t (opnd slot x) (opnd slot i)with
   | some o=>rfl
   | none=>cases xStrAt T t (opnd slot x) (opnd slot i)<;>rfl
 ·rename_i x
  unfold hNil
  simp only[xOpR,xNew,xCool2,coolable2,xOpQ,xOpD,xMore,xOpC,xOp,xCool,coolable,Bool.false_and,Bool.false_eq_true,if_false]
  cases opnd slot x with
  | tup xs=>rfl
  | one u=>
   cases u with
   | agg xs=>rfl
   | lf y=>
    cases y<;>first | rfl | (rename_i e;cases e<;>rfl)
 ·rename_i c x y
  simp only[xOpR,xNew,xCool2,coolable2,xOpQ,xOpD,xMore,xOpC,xOp,xCool,coolable,Bool.false_and,Bool.false_eq_true,if_false]
  cases xPick slot c x y<;>rfl
 ·rename_i s t x
  unfold hConv
  simp only[xOpR,xNew,xCool2,coolable2,xOpQ,xOpD,xMore,xOpC,xOp,xCool,coolable,Bool.false_and,Bool.false_eq_true,if_false]
  cases xText T S blk s t (opnd slot x)with
  | some o=>rfl
  | none=>cases xConv T s t (opnd slot x)<;>rfl
 ·rename_i t x
  unfold hBox
  simp only[xOpR,xNew,xCool2,coolable2,xOpQ,xOpD,xMore,xOpC,xOp,xCool,coolable,Bool.false_and,Bool.false_eq_true,if_false]
  cases opnd slot x with
  | tup xs=>rfl
  | one u=>
   dsimp only
   cases u.whole<;>rfl
 ·rename_i c
  unfold hCall at h
  split at h
  ·rename_i f hc
   injection h with h
   subst h
   refine⟨rfl,?_⟩
   unfold hFn
   simp only[xOpR,xNew,xCool2,coolable2,xOpQ,xOpD,xMore,xOpC,xOp,xCool,coolable,Bool.false_and,Bool.false_eq_true,if_false,hc]
   cases xCallC Γ blk fr (opnd slot f) (c.args.toList.map (opnd slot))with
   | some o=>rfl
   | none=>
    cases opnd slot f with
    | tup xs=>rfl
    | one u=>
     cases u with
     | agg xs=>rfl
     | lf y=>
      cases y<;>first | rfl | skip
      rename_i f' caps
      dsimp only
      cases hb:(caps.all fun l=>isCells (blk l))with
      | true=>
       rw[if_pos rfl]
       cases xCall Γ f' blk (c.args.toList.map (opnd slot)++caps.map fun l=> .one (.lf (.ptr l 0))) fr<;>rfl
      | false=>
       rw[if_neg (by simp)]
  ·rename_i hc
   split at h
   ·rename_i x hx
    injection h with h
    subst h
    refine⟨rfl,?_⟩
    simp only[xOpR,xNew,xCool2,coolable2,xOpQ,xOpD,xMore,xOpC,xOp,xCool,coolable,Bool.false_and,Bool.false_eq_true,if_false,hc,hx]
    cases xLen S T blk c.argTypes (opnd slot x)<;>rfl
   ·cases h
  ·cases h
theorem slow_of {ops:Array Oper}{draw:Bool}{o:Oper}{i:Nat}{acc:Acc}{s:St D}:(match xNext s.slot s.blk o.op with
   | some (b,o1,o2)=>stepU T S Γ ops draw o i acc s (cond b o1 o2)
   | none=>(match xOpR T S Γ s.slot s.blk (s.next+64*i) o.op with
    | none=>none
    | some out=>stepU T S Γ ops draw o i acc s out))=stepVU T S Γ ops draw o i acc s:=by
 unfold stepVU
 cases draw with
 | true=>rfl
 | false=>
  cases hx:xFast T s.slot s.blk o.op with
  | none=>rfl
  | some v=>
   obtain⟨q1,q2⟩:=fast_ok (S:=S) (Γ:=Γ) (fr:=s.next+64*i) hx
   rw[q1,q2]
   rfl
theorem stepVUK_ok {ops:Array Oper}{draw:Bool}{o:Oper}{i:Nat}{acc acc':Acc}{k k':Kt D}(hk:KtOk k)(h:stepVUK T S Γ ops draw o i acc k=some (acc',k')):KtOk k'/\stepVU T S Γ ops draw o i acc k.s=some (acc',k'.s):=by
 rw[<-slow_of]
 unfold stepVUK at h
 rw[hk.sl,hk.bl]at h
 split at h
 ·rename_i r hr
  obtain⟨q1,q2⟩:=hot_ok hr
  rw[q1,q2]
  split at h
  ·exact stepUK_ok hk h
  ·cases h
 ·unfold slowUK at h
  rw[hk.sl,hk.bl]at h
  split at h
  ·exact stepUK_ok hk h
  ·split at h
   ·cases h
   ·rename_i out ho
    first | exact stepUK_ok hk h | (rw[ho];exact stepUK_ok hk h)
theorem skipUK_ok {ops:Array Oper}{draw:Bool}{o:Oper}{i:Nat}{acc acc':Acc}{k k':Kt D}(hk:KtOk k)(h:skipUK ops draw o i acc k=some (acc',k')):KtOk k'/\skipU ops draw o i acc k.s=some (acc',k'.s):=by
 unfold skipUK at h
 unfold skipU
 rw[hk.sl,hk.bl]at h
 cases draw with
 | false=>
  dsimp only at h⊢
  split at h
  ·cases h
  ·rename_i k1 h1
   injection h with h;injection h with q1 q2;subst q1 q2
   obtain⟨r1,r2⟩:=put_ok hk h1
   exact⟨r1,by rw[r2]⟩
 | true=>
  dsimp only at h⊢
  split at h
  ·cases h
  ·rename_i hb
   rw[hb]
   dsimp only
   split at h
   ·cases h
   ·rename_i k1 h1
    injection h with h;injection h with q1 q2;subst q1 q2
    obtain⟨r1,r2⟩:=put_ok hk h1
    exact⟨r1,by rw[r2]⟩
theorem tell_ok {k k':Kt D}{d:Nat}{b:Bool}(hk:KtOk k)(h:k.tell d b=some k'):KtOk k'/\k'.s=⟨(d, .one (.lf (.val (.bool b))))::k.s.tmps,k.s.blks,k.s.next⟩:=by
 unfold Kt.tell at h
 split at h
 ·cases h
 ·rename_i sl hsl
  injection h with h
  subst h
  refine⟨⟨?_,hk.bl⟩,rfl⟩
  show sget sl=look _ _
  rw[sset_get hsl,hk.sl,look_cons]
  rfl
theorem guardUK_ok {ops:Array Oper}{draw:Bool}{o:Oper}{i:Nat}{acc acc':Acc}{k k':Kt D}(hk:KtOk k)(h:guardUK T S Γ ops draw o i acc k=some (acc',k')):KtOk k'/\guardU T S Γ ops draw o i acc k.s=some (acc',k'.s):=by
 unfold guardUK at h
 unfold guardU
 split at h
 ·rename_i hg
  rw[hg]
  exact stepVUK_ok hk h
 ·rename_i j want hg
  rw[hg]
  dsimp only
  split at h
  ·cases h
  ·rename_i d hd
   rw[hd]
   dsimp only
   rw[hk.sl]at h
   split at h
   ·rename_i b hs
    rw[hs]
    dsimp only
    split at h
    ·cases h
    ·rename_i k1 h1
     obtain⟨r1,r2⟩:=tell_ok hk h1
     cases b<;>cases want
     ·obtain⟨u1,u2⟩:=stepVUK_ok r1 h;rw[r2]at u2;exact⟨u1,u2⟩
     ·obtain⟨u1,u2⟩:=skipUK_ok r1 h;rw[r2]at u2;exact⟨u1,u2⟩
     ·obtain⟨u1,u2⟩:=skipUK_ok r1 h;rw[r2]at u2;exact⟨u1,u2⟩
     ·obtain⟨u1,u2⟩:=stepVUK_ok r1 h;rw[r2]at u2;exact⟨u1,u2⟩
   ·rename_i b hs
    rw[hs]
    dsimp only
    split at h
    ·rename_i hb;rw[hb];exact stepVUK_ok hk h
    ·rename_i hb;rw[hb];exact skipUK_ok hk h
   ·rename_i v hnb hs
    rw[hs]
    split at h
    ·rename_i hb
     obtain⟨u1,u2⟩:=skipUK_ok hk h
     refine⟨u1,?_⟩
     split
     ·rename_i b e;cases e
     ·rename_i b e
      injection e with e;injection e with e;injection e with e
      exact absurd e (hnb b)
     ·rename_i v' _ e
      injection e with e;injection e with e;injection e with e
      subst e
      rw[hb]
      exact u2
     ·rename_i e1 e2;exact absurd rfl (e2 v)
    ·cases h
   ·cases h
theorem opsUK_ok {ops:Array Oper}{n:Nat}{draw:Bool}:∀{l:List Oper} {i:Nat} {acc:Acc} {k k':Kt D},KtOk k->opsUK T S Γ ops n draw l i acc k=some k'->KtOk k'/\opsU T S Γ ops n draw l i acc k.s=some k'.s
 | [],i,acc,k,k',hk,h=>by
  injection h with h
  subst h
  exact⟨⟨hk.sl,hk.bl⟩,rfl⟩
 | o::r,i,acc,k,k',hk,h=>by
  unfold opsUK at h
  unfold opsU
  split at h
  ·cases h
  ·rename_i hd
   rw[hd]
   dsimp only
   split at h
   ·cases h
   ·rename_i acc1 k1 hg
    obtain⟨u1,u2⟩:=guardUK_ok hk hg
    rw[u2]
    exact opsUK_ok u1 h
theorem evUK_ok {n m:Nat}:∀(c:Code) {k k':Kt D} {e:Ex},KtOk k->evUK T S Γ n m c k=some (e,k')->KtOk k'/\evU T S Γ n m c k.s=some (e,k'.s):=by
 intro c
 induction c with
 | skip=>intro k k' e hk h;injection h with h;injection h with h1 h2;subst h1 h2;exact⟨hk,rfl⟩
 | region id ops draw=>
  intro k k' e hk h
  unfold evUK at h
  unfold evU
  split at h
  ·cases h
  ·rename_i k1 h1
   injection h with h;injection h with q1 q2;subst q1 q2
   obtain⟨u1,u2⟩:=opsUK_ok hk h1
   exact⟨u1,by rw[u2]⟩
 | seq a b iha ihb=>
  intro k k' e hk h
  unfold evUK at h
  unfold evU
  split at h
  ·cases h
  ·rename_i e1 k1 h1
   obtain⟨u1,u2⟩:=iha hk h1
   rw[u2]
   cases e1 with
   | normal=>exact ihb u1 h
   | exit i=>injection h with h;injection h with q1 q2;subst q1 q2;exact⟨u1,rfl⟩
   | ret=>injection h with h;injection h with q1 q2;subst q1 q2;exact⟨u1,rfl⟩
 | cond c x y ihx ihy=>
  intro k k' e hk h
  unfold evUK at h
  unfold evU
  rw[hk.sl]at h
  split at h
  ·rename_i b hb
   rw[hb]
   cases b with
   | true=>exact ihx hk h
   | false=>exact ihy hk h
  ·rename_i b hb
   rw[hb]
   cases b with
   | true=>exact ihx hk h
   | false=>exact ihy hk h
  ·cases h
 | block id b ih=>
  intro k k' e hk h
  unfold evUK at h
  unfold evU
  split at h
  ·cases h
  ·rename_i e1 k1 h1
   obtain⟨u1,u2⟩:=ih hk h1
   rw[u2]
   cases e1 with
   | normal=>injection h with h;injection h with q1 q2;subst q1 q2;exact⟨u1,rfl⟩
   | exit j=>
    dsimp only at h⊢
    split at h
    ·rename_i hj;rw[hj];injection h with h;injection h with q1 q2;subst q1 q2;exact⟨u1,rfl⟩
    ·rename_i hj;rw[hj];injection h with h;injection h with q1 q2;subst q1 q2;exact⟨u1,rfl⟩
   | ret=>injection h with h;injection h with q1 q2;subst q1 q2;exact⟨u1,rfl⟩
 | loop b ih=>
  intro k k' e hk h
  unfold evUK at h
  unfold evU
  split at h
  ·cases h
  rename_i hlt
  rw[hlt]
  dsimp only
  have key:∀(j:Nat) (k:Kt D),KtOk k->(Nat.rec (motive:=fun _=>Kt D->Option (Ex×Kt D)) (fun _=>none) (fun _ ih s=>match evUK T S Γ n m b s with
   | none=>none
   | some (e,s)=>(match e with
    | .normal=>ih s
    | .exit i=>some (.exit i,s)
    | .ret=>some (.ret,s))) j k)=some (e,k')->KtOk k'/\(Nat.rec (motive:=fun _=>St D->Option (Ex×St D)) (fun _=>none) (fun _ ih s=>match evU T S Γ n m b s with
   | none=>none
   | some (e,s)=>(match e with
    | .normal=>ih s
    | .exit i=>some (.exit i,s)
    | .ret=>some (.ret,s))) j k.s)=some (e,k'.s):=by
   intro j
   induction j with
   | zero=>intro k _ h;cases h
   | succ j ihj=>
    intro k hk h
    dsimp only at h⊢
    split at h
    ·cases h
    ·rename_i e1 k1 h1
     obtain⟨u1,u2⟩:=ih hk h1
     rw[u2]
     cases e1 with
     | normal=>exact ihj k1 u1 h
     | exit i=>injection h with h;injection h with q1 q2;subst q1 q2;exact⟨u1,rfl⟩
     | ret=>injection h with h;injection h with q1 q2;subst q1 q2;exact⟨u1,rfl⟩
  exact key m k hk h
 | exit id=>intro k k' e hk h;injection h with h;injection h with h1 h2;subst h1 h2;exact⟨hk,rfl⟩
 | ret=>intro k k' e hk h;injection h with h;injection h with h1 h2;subst h1 h2;exact⟨hk,rfl⟩
 | scope b ih=>intro k k' e hk h;exact ih hk h
 | label l=>intro k k' e hk h;injection h with h;injection h with h1 h2;subst h1 h2;exact⟨hk,rfl⟩
 | _=>intro k k' e hk h;cases h
theorem sfold_ok:∀(args:List (Sl D)) (i:Nat) (t t':Tri (Sl D)),((args.zipIdx i).foldl (fun k p=>match k with
  | none=>none
  | some sl=>sset sl p.2 p.1) (some t))=some t'->∀n,sget t' n=if i<=n/\n < i+args.length then(args[n - i]?).getD (.one (.lf .any))else sget t n
 | [],i,t,t',h,n=>by
  injection h with h
  subst h
  rw[if_neg (by simp)]
 | x::r,i,t,t',h,n=>by
  rw[List.zipIdx_cons,List.foldl_cons]at h
  dsimp only at h
  cases hs:sset t i x with
  | none=>
   rw[hs]at h
   have:∀(l:List (Sl D×Nat)),(l.foldl (fun(k:Option (Tri (Sl D))) p=>match k with
     | none=>none
     | some sl=>sset sl p.2 p.1) none)=none:=by
    intro l
    induction l with
    | nil=>rfl
    | cons y l ih=>exact ih
   rw[this]at h
   cases h
  | some t1=>
   rw[hs]at h
   rw[sfold_ok r (i+1) t1 t' h n,sset_get hs]
   simp only[List.length_cons]
   by_cases h1:i+1<=n/\n < i+1+r.length
   ·rw[if_pos h1,if_pos (by omega),show n - i=(n - (i+1))+1 by omega]
    simp
   ·rw[if_neg h1]
    by_cases h2:n=i
    ·subst h2
     rw[upd_same,if_pos (by omega)]
     simp
    ·rw[upd_other _ _ _ _ h2,if_neg (by omega)]
theorem initT_look:∀(args:List (Sl D)) (i n:Nat),look (.one (.lf .any)) (initT i args) n=if i<=n/\n < i+args.length then(args[n - i]?).getD (.one (.lf .any))else .one (.lf .any)
 | [],i,n=>by simp[initT,look]
 | x::r,i,n=>by
  simp only[initT,look,List.length_cons]
  by_cases h2:n=i
  ·subst h2
   rw[if_pos (by simp),if_pos (by omega)]
   simp
  ·have:¬(n.beq i=true):=fun e=>h2 (Nat.eq_of_beq_eq_true e)
   rw[if_neg this,initT_look r (i+1) n]
   by_cases h1:i+1<=n/\n < i+1+r.length
   ·rw[if_pos h1,if_pos (by omega),show n - i=(n - (i+1))+1 by omega]
    simp
   ·rw[if_neg h1,if_neg (by omega)]
theorem initB_upd:∀(bks:List (Bk D)) (i:Nat) (f:Nat->Option (Bk D)) (n:Nat),updL f (initB i bks) n=if i<=n/\n < i+bks.length then bks[n - i]? else f n
 | [],i,f,n=>by
  rw[if_neg (by simp only[List.length_nil];omega)]
  rfl
 | b::r,i,f,n=>by
  show updL (upd f i (some b)) (initB (i+1) r) n=_
  rw[initB_upd r (i+1) _ n]
  simp only[List.length_cons]
  by_cases h1:i+1<=n/\n < i+1+r.length
  ·rw[if_pos h1,if_pos (by omega),show n - i=(n - (i+1))+1 by omega]
   simp
  ·rw[if_neg h1]
   by_cases h2:n=i
   ·subst h2
    rw[upd_same,if_pos (by omega)]
    simp
   ·rw[upd_other _ _ _ _ h2,if_neg (by omega)]
theorem init_ok {args:List (Sl D)}{bks:List (Bk D)}{k:Kt D}(h:Kt.init args bks=some k):KtOk k/\k.s=St.init args bks:=by
 unfold Kt.init at h
 cases h1:(args.zipIdx.foldl (fun k p=>match k with
  | none=>none
  | some sl=>sset sl p.2 p.1) (some (.leaf:Tri (Sl D))))with
 | none=>rw[h1]at h;cases h
 | some sl=>
  rw[h1]at h
  cases h2:bset .leaf (initB 0 bks)with
  | none=>rw[h2]at h;cases h
  | some bl=>
   rw[h2]at h
   injection h with h
   subst h
   refine⟨⟨?_,?_⟩,rfl⟩
   ·funext n
    show sget sl n=look _ (initT 0 args) n
    rw[sfold_ok args 0 .leaf sl h1 n,initT_look]
    rfl
   ·funext n
    show bget bl n=look none (initB 0 bks) n
    rw[bset_get h2,initB_upd,initB_look]
    simp only[Nat.zero_le,true_and,Nat.zero_add,if_true]
    by_cases hl:n < bks.length
    ·rw[if_pos hl]
    ·rw[if_neg hl,List.getElem?_eq_none (by omega)];rfl
end
end Go.Vc
namespace Go.Vc
open Go.RowKit
set_option linter.unusedVariables false
set_option linter.unusedSimpArgs false
section
variable {D:Type}
def refsAt' (blk:Nat->Option (Bk D))(l:Nat):List Nat:=
 match blk l with
 | some bk=>bk.refs
 | none=>[]
def rangeOk (ids:List Nat):Nat->Bool
 | 0=>true
 | n+1=>(match ids[n]? with
  | some l=>Nat.beq l n
  | none=>false) && rangeOk ids n
def keptB (keys:List Nat)(lent i:Nat):Bool:=Nat.blt i lent && !memB i keys
def liveOnce (blk:Nat->Option (Bk D))(l:Nat):Option (Bk D):=
 match blk l with
 | some bk=>if bk.refs.all fun r=>(blk r).isSome then some bk else none
 | none=>none
def liveB (blk:Nat->Option (Bk D)):Nat->Option (Bk D):=liveOnce (liveOnce blk)
def postU (blk:Nat->Option (Bk D))(ids keys:List Nat)(lent:Nat):List Nat->Nat->List (Nat×Bk D)
 | [],_=>[]
 | l::r,i=>(match keptB keys lent i,blk l with
  | false,some bk=>(i,bk.ren (posIn ids))::postU blk ids keys lent r (i+1)
  | _,_=>postU blk ids keys lent r (i+1))
def keepU (blk:Nat->Option (Bk D))(keys:List Nat)(lent:Nat):List Nat:=(List.range lent).filter fun i=>keptB keys lent i && (blk i).isSome
def slOf (us:List (Sv D)):Sl D:=
 match us with
 | [u]=> .one u
 | us=> .tup us
abbrev ResU (D:Type):=Sl D×List (Nat×Bk D)×List Nat
def retU (T:TypeId->Option Ty)(S:Sh D)(rs:List ResultVar)(lent:Nat)(s:St D):Tr D (ResU D):=
 match resVars T S s rs with
 | none=> .halt 603 s
 | some us=>
  let ids:=reach s.blk 5 (addNew (List.range lent) (us.flatMap Sv.refs))
  let keys:=(s.blks.take (s.blks.length - lent)).map (·.1)
  if rangeOk ids lent && allIn ids (us.flatMap Sv.refs) && allIn ids (ids.flatMap (refsAt' s.blk))then
   .ret (slOf (us.map (Sv.ren (posIn ids))),postU (liveB s.blk) ids keys lent ids 0,keepU (liveB s.blk) keys lent)
  else .halt 605 s
def retUL (T:TypeId->Option Ty)(S:Sh D)(rs:List ResultVar)(lent:Nat):Ex->St D->Tr D (ResU D)
 | .normal,s=>retU T S rs lent s
 | .ret,s=>retU T S rs lent s
 | .exit _,s=> .halt 604 s
noncomputable def resK (T:TypeId->Option Ty)(S:Sh D)(sl:Nat->Sl D)(bl:Nat->Option (Bk D)):ResultVar->Option (Sv D)
 | .tmp t=>(match sl t with
  | .one u=>some u
  | _=>none)
 | .cell t ty=>(match xLoad T S bl ty (sl t)with
  | some ⟨none, .one u,_⟩=>some u
  | _=>none)
noncomputable def ressK (T:TypeId->Option Ty)(S:Sh D)(sl:Nat->Sl D)(bl:Nat->Option (Bk D)):List ResultVar->Option (List (Sv D))
 | []=>some []
 | r::rs=>(match resK T S sl bl r,ressK T S sl bl rs with
  | some u,some us=>some (u::us)
  | _,_=>none)
noncomputable def retK (T:TypeId->Option Ty)(S:Sh D)(rs:List ResultVar)(lent:Nat)(k:Kt D):Option (ResU D):=
 match ressK T S (sget k.sl) (bget k.bl) rs with
 | none=>none
 | some us=>
  let ids:=reach (bget k.bl) 5 (addNew (List.range lent) (us.flatMap Sv.refs))
  let keys:=(k.s.blks.take (k.s.blks.length - lent)).map (·.1)
  if rangeOk ids lent && allIn ids (us.flatMap Sv.refs) && allIn ids (ids.flatMap (refsAt' (bget k.bl)))then
   some (slOf (us.map (Sv.ren (posIn ids))),postU (liveB (bget k.bl)) ids keys lent ids 0,keepU (liveB (bget k.bl)) keys lent)
  else none
noncomputable def retUK (T:TypeId->Option Ty)(S:Sh D)(rs:List ResultVar)(lent:Nat):Ex->Kt D->Option (ResU D)
 | .normal,s=>retK T S rs lent s
 | .ret,s=>retK T S rs lent s
 | .exit _,_=>none
theorem resK_ok {T:TypeId->Option Ty}{S:Sh D}{s:St D}{r:ResultVar}{u:Sv D}(h:resK T S s.slot s.blk r=some u):resVar T S s r=some u:=by
 cases r with
 | tmp t=>exact h
 | cell t ty=>
  simp only[resK]at h
  simp only[resVar]
  split at h
  ·rename_i x b hx
   rw[hx]
   exact h
  ·cases h
theorem ressK_ok {T:TypeId->Option Ty}{S:Sh D}{s:St D}:∀{rs:List ResultVar} {us:List (Sv D)},ressK T S s.slot s.blk rs=some us->resVars T S s rs=some us
 | [],us,h=>h
 | r::rs,us,h=>by
  unfold ressK at h
  split at h
  ·rename_i u us' h1 h2
   unfold resVars
   rw[resK_ok h1,ressK_ok h2]
   exact h
  ·cases h
theorem retUK_ok {T:TypeId->Option Ty}{S:Sh D}{rs:List ResultVar}{lent:Nat}{e:Ex}{k:Kt D}{r:ResU D}(hk:KtOk k)(h:retUK T S rs lent e k=some r):(retUL T S rs lent e k.s).go=some r:=by
 have key:retK T S rs lent k=some r->(retU T S rs lent k.s).go=some r:=by
  intro h
  unfold retK at h
  unfold retU
  rw[hk.sl,hk.bl]at h
  split at h
  ·cases h
  ·rename_i us hus
   rw[ressK_ok hus]
   dsimp only at h⊢
   split at h
   ·rename_i hc
    rw[if_pos hc]
    exact h
   ·cases h
 cases e with
 | normal=>exact key h
 | ret=>exact key h
 | exit i=>cases h
noncomputable def ctU (T:TypeId->Option Ty)(S:Sh D)(Γ:FuncId->Option (Ct D))(m:Nat)(fn:Func):Ct D:=fun args bks=>
 if Nat.ble args.length fn.ntmps then
  (match Kt.init args bks with
  | none=>none
  | some k=>(match evK T S Γ fn.ntmps m (bodyF fn) k with
   | none=>none
   | some (e,k)=>(match retUK T S fn.results.toList bks.length e k with
    | none=>none
    | some (r,post,keep)=>some (none,r,post,keep))))else none
end
section
variable {D:Type}{P:Program}{S:Sh D}{T:TypeId->Option Ty}{Γ:FuncId->Option (Ct D)}{N:Nat->Prop}{w w':World}{w0:Bs}{g0:Nat->Option Value}{n:Nat}{al:Nat->Prop}{g:Nat->Option Value}{blk:Nat->Option (Bk D)}{ids:List Nat}
theorem rangeOk_at:∀{n:Nat},rangeOk ids n=true->∀i,i < n->ids[i]? =some i
 | 0,_,i,h=>by omega
 | n+1,h,i,hi=>by
  simp only[rangeOk,Bool.and_eq_true]at h
  by_cases hin:i=n
  ·subst hin
   have:=h.1
   split at this
   ·rename_i l hl;rw[hl,Nat.eq_of_beq_eq_true this]
   ·cases this
  ·exact rangeOk_at h.2 i (by omega)
theorem caps_id {f:Nat->Nat}:∀{l:List Nat},(∀x∈l,f x=x)->l.map f=l
 | [],_=>rfl
 | x::r,h=>by rw[List.map_cons,h x (by simp),caps_id fun y hy=>h y (by simp[hy])]
theorem Lf.ren_same {f:Nat->Nat}{x:Lf D}(h:∀l∈x.refs,f l=l):x.ren f=x:=by
 cases x<;>simp only[Lf.ren]<;>simp only[Lf.refs,List.mem_singleton,forall_eq]at h<;>first | rw[h] | (rw[caps_id h]) | rfl
theorem lfs_ren_id {f:Nat->Nat}:∀{xs:List (Lf D)},(∀l∈xs.flatMap Lf.refs,f l=l)->xs.map (Lf.ren f)=xs
 | [],_=>rfl
 | x::xs,h=>by
  rw[List.map_cons,Lf.ren_same fun l hl=>h l (by simp[hl]),lfs_ren_id fun l hl=>h l (by simp only[List.flatMap_cons,List.mem_append];exact .inr hl)]
theorem Bk.ren_same {f:Nat->Nat}{bk:Bk D}(h:∀l∈bk.refs,f l=l):bk.ren f=bk:=by
 cases bk with
 | cells cs=>simp only[Bk.ren];rw[lfs_ren_id h]
 | tc t cs=>simp only[Bk.ren];rw[lfs_ren_id h]
 | _=>rfl
theorem postU_look {keys:List Nat}{lent:Nat}:∀(r:List Nat) (i k:Nat) (bk:Bk D),lookB (postU blk ids keys lent r i) k=some bk->∃l bk0,r[k - i]? =some l/\i<=k/\blk l=some bk0/\bk=bk0.ren (posIn ids)
 | [],i,k,bk,h=>by cases h
 | l::r,i,k,bk,h=>by
  have next:lookB (postU blk ids keys lent r (i+1)) k=some bk->∃l' bk0,(l::r)[k - i]? =some l'/\i<=k/\blk l'=some bk0/\bk=bk0.ren (posIn ids):=fun h=>by
   obtain⟨l',bk0,h1,h2,h3,h4⟩:=postU_look r (i+1) k bk h
   exact⟨l',bk0,by rw[show k - i=(k - (i+1))+1 by omega];simpa using h1,by omega,h3,h4⟩
  unfold postU at h
  split at h
  ·rename_i bk0 hk hb
   unfold lookB at h
   split at h
   ·rename_i he
    have he:=Nat.eq_of_beq_eq_true he
    subst he
    injection h with h
    exact⟨l,bk0,by simp,Nat.le_refl _,hb,h.symm⟩
   ·exact next h
  ·exact next h
theorem live_once {l:Nat}{bk:Bk D}(h:liveOnce blk l=some bk):blk l=some bk:=by
 unfold liveOnce at h
 split at h
 ·rename_i b hb
  split at h
  ·rw[hb];exact h
  ·cases h
 ·cases h
theorem live_some {l:Nat}{bk:Bk D}(h:liveB blk l=some bk):blk l=some bk:=live_once (live_once h)
theorem mset_ids {tab:Nat->Option (Bk D)}(hat:∀i bk,tab i=some bk->∃l bk0,ids[i]? =some l/\blk l=some bk0/\bk=bk0.ren (posIn ids)):∀b,Mset N tab (gc g ids) b->Mset N blk g b:=by
 rintro b (hb | ⟨i,v,h1,h2,h3⟩)
 ·exact .inl hb
 ·obtain⟨bk,hbk,hh⟩:=hot_some h1
  obtain⟨l,bk0,hl,hb0,rfl⟩:=hat i bk hbk
  refine .inr ⟨l,v,?_,by simpa[gc,hl]using h2,h3⟩
  rw[hb0]
  have:=hot_ren (f:=posIn ids) (some bk0)
  simp only[Option.map_some]at this
  rw[<-this];exact hh
theorem Hp.named (h:Hp S w0 N blk g al w){tab:Nat->Option (Bk D)}(hn:ids.Nodup)(hat:∀i bk,tab i=some bk->∃l bk0,ids[i]? =some l/\blk l=some bk0/\bk=bk0.ren (posIn ids))(hrefs:∀l∈ids,∀bk,blk l=some bk->∀r∈bk.refs,r∈ids):
  Hp S w0 N tab (gc g ids) (fun _=>True) w:=by
 have hotr:∀bk0:Bk D,hot (some (bk0.ren (posIn ids)))=true->hot (some bk0)=true:=fun bk0 hh=>by
  have:=hot_ren (f:=posIn ids) (some bk0)
  simp only[Option.map_some]at this
  rw[<-this];exact hh
 refine⟨h.below,h.hN,?_,?_,fun _ _ _=>trivial,?_,h.gl.mono fun b hb=>mset_ids hat b hb⟩
 ·intro i bk hi
  obtain⟨l,bk0,hl,hb0,rfl⟩:=hat i bk hi
  obtain⟨v,hv,hok⟩:=h.bks l bk0 hb0
  refine⟨v,by simp[gc,hl,hv],hok.ren (fun l' hl' u hu=> ?_) (fun _ b hb=>mset_ids hat b hb) (fun hh b hb=>(h.mine (by rw[hb0];exact hh) hv hb).2)⟩
  rw[gc_pos (hrefs l (List.mem_of_getElem? hl) bk0 hb0 l' hl')]
  exact hu
 ·intro i j vi vj b hi hj hgi hgj hbi hbj
  obtain⟨bki,hbki,hhi⟩:=hot_some hi
  obtain⟨bkj,hbkj,hhj⟩:=hot_some hj
  obtain⟨l,bk0,hl,hb0,rfl⟩:=hat i bki hbki
  obtain⟨l',bk0',hl',hb0',rfl⟩:=hat j bkj hbkj
  have:=h.sep l l' vi vj b (by rw[hb0];exact hotr _ hhi) (by rw[hb0'];exact hotr _ hhj) (by simpa[gc,hl]using hgi) (by simpa[gc,hl']using hgj) hbi hbj
  subst this
  rw[<-posIn_of hn hl,<-posIn_of hn hl']
 ·intro i v hi
  simp only[gc]at hi
  cases hl:ids[i]? with
  | none=>rw[hl]at hi;cases hi
  | some l=>rw[hl]at hi;exact h.refs l v hi
theorem slOf_rel {M:Nat->Prop}{us:List (Sv D)}{vs:List Value}(h:SvsRel S M w g us vs):(slOf us).Rel S M w g (if h:vs.toArray.size=1 then vs.toArray[0]else .tuple vs.toArray):=by
 match us,vs,h with
 | [],[],h=>exact⟨[],rfl,trivial⟩
 | [u],[v],h=>exact h.1
 | u::u'::us,v::v'::vs,h=>
  have:¬(v::v'::vs).toArray.size=1:=by simp
  rw[dif_neg this]
  exact⟨v::v'::vs,rfl,h⟩
theorem retU_sound {s:St D}{a:Act}{fn:Func}{bks:List (Bk D)}{r:Sl D}{post:List (Nat×Bk D)}{keep:List Nat}(hTy:∀t ty,T t=some ty->TyOk P t ty)(hlt:∀l v,g0 l=some v->l < bks.length)(hrf:∀(l:Nat) (bk:Bk D),bks[l]? =some bk->∀r∈bk.refs,r < bks.length)
  (hpre:∃pre,s.blks=pre++initB 0 bks) (h:HoldsSt S w0 g0 N n s a w) {e0:ResU D} (hr:(retU T S fn.results.toList bks.length s).run e0=some (r,post,keep)):
  a.defers=[]/\∃v,(results fn a.tmps).run P w= .ok v w/\∃g',More g0 g'/\Hp S w0 N (tabK post keep bks) g' (fun _=>True) w/\r.Rel S (Mset N (tabK post keep bks) g') w g' v:=by
 obtain⟨g,hp,hs,hn,hdf,hm⟩:=h
 unfold retU at hr
 split at hr
 ·cases hr
 rename_i us hus
 obtain⟨vs,hrun,hrel⟩:=resVars_run hTy hp hs _ us hus
 dsimp only at hr
 split at hr
 ·rename_i hc
  injection hr with hr
  injection hr with q1 hr
  injection hr with q2 q3
  simp only[Bool.and_eq_true]at hc
  obtain⟨⟨c1,c2⟩,c3⟩:=hc
  generalize hids:reach s.blk 5 (addNew (List.range bks.length) (us.flatMap Sv.refs))=ids at*
  generalize hkeys:(s.blks.take (s.blks.length - bks.length)).map (·.1)=keys at*
  have hnd:ids.Nodup:=by
   rw[<-hids]
   exact reach_nodup _ _ (addNew_nodup _ _ List.nodup_range)
  have c1:=rangeOk_at c1
  have c2:=allIn_mem c2
  have c3:=allIn_mem c3
  have hrefs:∀l∈ids,∀bk,s.blk l=some bk->∀r∈bk.refs,r∈ids:=fun l hl bk hb r hr=>c3 r (List.mem_flatMap.2 ⟨l,hl,by simp only[refsAt',hb];exact hr⟩)
  obtain⟨pre,hpre⟩:=hpre
  have hil:∀(bks:List (Bk D)) (i:Nat),(initB i bks).length=bks.length:=fun bks=>by
   induction bks with
   | nil=>intro i;rfl
   | cons b r ih=>intro i;simp[initB,ih]
  have hk:keys=pre.map (·.1):=by
   rw[<-hkeys,hpre]
   simp[hil]
  have hat:∀i bk,tabK post keep bks i=some bk->∃l bk0,ids[i]? =some l/\s.blk l=some bk0/\bk=bk0.ren (posIn ids):=by
   intro i bk hi
   unfold tabK at hi
   split at hi
   ·rename_i bk' hb'
    injection hi with hi
    subst hi
    rw[<-q2]at hb'
    obtain⟨l,bk0,h1,_,h3,h4⟩:=postU_look _ _ _ _ hb'
    exact⟨l,bk0,by simpa using h1,live_some h3,h4⟩
   ·split at hi
    ·rename_i hmem
     have hmem:=memB_iff.1 hmem
     rw[<-q3]at hmem
     unfold keepU at hmem
     obtain⟨m1,m2⟩:=List.mem_filter.1 hmem
     have m2:=(Bool.and_eq_true_iff.1 m2).1
     simp only[keptB,Bool.and_eq_true,Bool.not_eq_true']at m2
     have hil':i < bks.length:=by simpa[Nat.blt_eq]using m2.1
     have hno:i∉pre.map (·.1):=by rw[<-hk];exact memB_no m2.2
     refine⟨i,bk,c1 i hil',?_,(Bk.ren_same fun l hl=> ?_).symm⟩
     ·show look none s.blks i=some bk
      rw[hpre,look_append,if_neg hno,initB_tab]
      exact hi
     ·exact posIn_of hnd (c1 l (hrf i bk hi l hl))
    ·cases hi
  refine⟨hdf,if h:vs.toArray.size=1 then vs.toArray[0]else .tuple vs.toArray,?_,gc g ids,fun l v hl=> ?_,hp.named hnd hat hrefs,?_⟩
  ·unfold results
   rw[Sem.run_bind,Array.mapM_eq_mapM_toList,Sem.run_map]
   change (((Sem.run P (fn.results.toList.mapM (resRun a.tmps)) w).andThen fun a w'=>Result.ok a.toArray w').andThen _)=_
   rw[hrun]
   rfl
  ·simp only[gc,c1 l (hlt l v hl),Option.bind_some]
   exact hm l v hl
  ·rw[<-q1]
   refine slOf_rel (hrel.ren (fun l hl u hu=> ?_) fun _ b hb=>mset_ids hat b hb)
   rw[gc_pos (c2 l hl)]
   exact hu
 ·cases hr
theorem ctU_ok {f:FuncId}{fn:Func}{m:Nat}(hmx:P.follows .mixedOrders=true)(hTy:∀t ty,T t=some ty->TyOk P t ty)(hΓ:∀f ct,Γ f=some ct->CtOk P S f ct)(hS:ShOk S)(hf:P.funcs[f]? =some fn)(hc:chkF fn=true)(hid:idsOk (bodyF fn)=true):CtOk P S f (ctU T S Γ m fn):=by
 simp only[chkF,Bool.and_eq_true,bne_iff_ne,ne_eq]at hc
 obtain⟨h1,h2,h3⟩:=hc
 obtain⟨c,hb⟩:=Option.isSome_iff_exists.1 h1
 have hbf:bodyF fn=c:=by simp[bodyF,hb]
 refine⟨fun args w=>by simp[callFunc,hf,h2,hb],fun X N g w args sargs bks p r post kp hp hrel hct hpre=> ?_⟩
 unfold ctU at hct
 split at hct
 ·rename_i hle
  have hle:=Nat.le_of_ble_eq_true hle
  split at hct
  ·cases hct
  rename_i k0 hk0
  obtain⟨i1,i2⟩:=init_ok hk0
  split at hct
  ·cases hct
  rename_i e1 k1 hev
  rw[evK_eq]at hev
  obtain⟨v1,v2⟩:=evUK_ok _ i1 hev
  rw[i2]at v2
  split at hct
  ·cases hct
  ·rename_i r' post' keep' hgo
   have hgo:=retUK_ok v1 hgo
   injection hct with hct
   injection hct with q1 hct
   injection hct with q2 hct
   injection hct with q3 q4
   subst q1 q2 q3 q4
   rw[<-evU_go (K:=retUL T S fn.results.toList bks.length) _ hid v2]at hgo
   have hgo:=Tr.go_run _ _ hgo
   rw[hbf]at hgo h3
   have hlt:∀l v,g l=some v->l < bks.length:=hp.al
   have hrf:∀(l:Nat) (bk:Bk D),bks[l]? =some bk->∀r∈bk.refs,r < bks.length:=fun l bk hb r hr=>by
    obtain⟨v,hv,hok⟩:=hp.bks l bk hb
    cases bk with
    | cells cs=>
     obtain⟨b,vs,t,_,_,_,hr'⟩:=hok
     obtain⟨u,hu⟩:=LfsRel.refs_some hr' r hr
     exact hlt r u hu
    | row e d=>simp[Bk.refs]at hr
    | ice d=>simp[Bk.refs]at hr
    | iter s p=>simp[Bk.refs]at hr
    | map kvs=>simp[Bk.refs]at hr
    | tc t cs=>
     obtain⟨b,vs,_,_,_,hr'⟩:=hok
     obtain⟨u,hu⟩:=LfsRel.refs_some hr' r hr
     exact hlt r u hu
   refine calls_of_wp hf hb (ev_sound JU_ok hmx hTy hΓ hS (w0:=⟨w,X⟩) (N:=N) c _ _ _ _ _ _ _ w h3 hgo (init_holds hp hrel hle) fun e s' a' w' h' hpb _ hk=> ?_)
   have fin:(retU T S fn.results.toList bks.length s').run (r',post',keep')=some (r',post',keep')->a'.defers=[]/\∃v,(results fn a'.tmps).run P w'= .ok v w'/\∃v' g',Ending.returned v= .returned v'/\More g g'/\Hp S ⟨w,X⟩ N (tabK post' keep' bks) g' (fun _=>True) w'/\
     r'.Rel S (Mset N (tabK post' keep' bks) g') w' g' v':=by
    intro hk
    obtain⟨h1,v,h2,g',h3,h4,h5⟩:=retU_sound hTy hlt hrf hpb h' hk
    exact⟨h1,v,h2,v,g',rfl,h3,h4,h5⟩
   cases e with
   | normal=>exact fin hk
   | ret=>exact fin hk
   | exit i=>cases hk
 ·cases hct
def fnOf (P:Program)(f:FuncId):Option Func:=
 match P.funcs[f]? with
 | some fn=>if chkF fn && idsOk (bodyF fn)then some fn else none
 | none=>none
noncomputable def gamU (P:Program)(T:TypeId->Option Ty)(S:Sh D)(ext:FuncId->Option (Ct D))(m:Nat):Nat->FuncId->Option (Ct D)
 | 0,_=>none
 | k+1,f=>(match ext f with
  | some ct=>(match fnOf P f with
   | some fn=>some (ctOr ct (ctU T S (gamU P T S ext m k) m fn))
   | none=>some ct)
  | none=>(match fnOf P f with
   | some fn=>some (ctU T S (gamU P T S ext m k) m fn)
   | none=>none))
theorem gamU_ok {ext:FuncId->Option (Ct D)}{m:Nat}(hmx:P.follows .mixedOrders=true)(hTy:∀t ty,T t=some ty->TyOk P t ty)(hS:ShOk S)(hext:∀f ct,ext f=some ct->CtOk P S f ct):∀(k:Nat) (f:FuncId) (ct:Ct D),gamU P T S ext m k f=some ct->CtOk P S f ct
 | 0,f,ct,h=>by cases h
 | k+1,f,ct,h=>by
  have key:∀fn,fnOf P f=some fn->CtOk P S f (ctU T S (gamU P T S ext m k) m fn):=fun fn hfn=>by
   unfold fnOf at hfn
   split at hfn
   ·rename_i fn' hf
    split at hfn
    ·rename_i hck
     injection hfn with hfn
     subst hfn
     rw[Bool.and_eq_true]at hck
     exact ctU_ok hmx hTy (gamU_ok hmx hTy hS hext k) hS hf hck.1 hck.2
    ·cases hfn
   ·cases hfn
  unfold gamU at h
  split at h
  ·rename_i c hc
   split at h
   ·rename_i fn hfn
    injection h with h
    subst h
    exact ctOr_ok (hext f c hc) (key fn hfn)
   ·injection h with h
    subst h
    exact hext f c hc
  ·split at h
   ·rename_i fn hfn
    injection h with h
    subst h
    exact key fn hfn
   ·cases h
end
end Go.Vc

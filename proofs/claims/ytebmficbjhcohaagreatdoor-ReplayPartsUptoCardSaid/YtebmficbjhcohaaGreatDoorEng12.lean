/- Own engine: Ved. -/
import Derived.Test.YtebmficbjhcohaaGreatDoorEng11
set_option linter.unusedVariables false
set_option linter.unusedSimpArgs false
namespace Go.Vc
open Go.RowKit
section
variable {D:Type}
def Tr.go:{R:Type}->Tr D R->Option R
 | _, .ret r=>some r
 | _, .ob p k=>cond p.b k.go none
 | _, .as _ k=>k.go
 | _, .br b t e=>cond b t.go e.go
 | _, .stuck _=>none
 | _, .halt _ _=>none
 | _, .unk _ _ _=>none
 | _, .loop _ _ _=>none
 | _, .cut _ _ _=>none
theorem Tr.We:∀{R:Type} (t:Tr D R) (r:R),t.go=some r->t.run r=some r
 | _, .ret r,a,h=>h
 | _, .ob p k,a,h=>by
  cases c:p.b with
  | true=>
   have h:cond p.b k.go none=some a:=h;rw[c]at h;simp only[Tr.run];rw[rJ (p.h c)];exact Tr.We k a h
  | false=>
   have h:cond p.b k.go none=some a:=h;rw[c]at h;cases h
 | _, .as p k,a,h=>by
  have:=Tr.We k a h;simp only[Tr.run];by_cases d:p
  ·rw[vO d];exact this
  ·rw[yD d]
 | _, .br b t e,a,h=>by
  cases b with
  | true=>exact Tr.We t a h
  | false=>exact Tr.We e a h
 | _, .stuck _,a,h=>by cases h
 | _, .halt _ _,a,h=>by cases h
 | _, .unk _ _ _,a,h=>by cases h
 | _, .loop _ _ _,a,h=>by cases h
 | _, .cut _ _ _,a,h=>by cases h
def shN (n:Nat):CQ D:=⟨Unit,fun _=>List.replicate n (.iter 0),fun _=>[],fun _=>none⟩
def JU (n:Nat):Nat->Option (CQ D):=fun i=>if Nat.ble 600000 i && Nat.blt i 700000 then some (shN n)else none
theorem aIQ {S:Sh D}{n:Nat}:∀i a,JU n i=some a->pY S a:=fun i a h=>by
 unfold JU at h;split at h
 ·injection h with h
  subst h;exact⟨fun cs x b=>by cases b⟩
 ·cases h
abbrev Acc:=List (Nat×List Nat×List Nat)
def okD:Option DP->Bool
 | none=>true
 | some p=>p.b
def akq (T:TypeId->Option Ty)(a:Nat->Sl D)(h:Nat->Option (Bk D))(d:Op):Option (Sl D):=
 match d with
 | .move x=>some (aB a x)
 | .assign x=>some (aB a x)
 | .fieldAddr t x f=>(match aB a x with
  | .one (.lf (.ptr l o))=>(match T t with
   | none=>none
   | some g=>(match g.aiA[f]? with
    | some (b,e,_)=>if Nat.beq e 0 then none else some (.one (.lf (.ptr l (o+b))))
    | none=>none))
  | _=>none)
 | .extract x i=>(match aB a x with
  | .sO c=>(match c[i]? with
   | some y=>some (.one y)
   | none=>none)
  | _=>none)
 | _=>none
def OY (T:TypeId->Option Ty)(S:Sh D)(e:FuncId->Option (Ct D))(d:Array Oper)(c:Bool)(o:Oper)(i:Nat)(b:Acc)(s:St D)(a:Out D):Option (Acc×St D):=
 match okD a.pre with
 | false=>none
 | true=>(match c with
  | false=>some (b,s.put o.dst a.val a.blks)
  | true=>(match aeo d b o (dB s.slot s.blk o.op) (a.blks.map (·.1))with
   | true=>none
   | false=>some ((i,dB s.slot s.blk o.op,a.blks.map (·.1))::b,s.put o.dst a.val a.blks)))
def Bf (T:TypeId->Option Ty)(S:Sh D)(e:FuncId->Option (Ct D))(d:Array Oper)(a:Bool)(o:Oper)(i:Nat)(c:Acc)(s:St D):Option (Acc×St D):=
 match a,akq T s.slot s.blk o.op with
 | false,some v=>some (c,s.put o.dst v [])
 | _,_=>(match Cm s.slot s.blk o.op with
  | some (b,g,h)=>OY T S e d a o i c s (cond b g h)
  | none=>(match rY T S e s.slot s.blk (s.next+64*i) o.op with
   | none=>none
   | some f=>OY T S e d a o i c s f))
def Oe (c:Array Oper)(b:Bool)(o:Oper)(i:Nat)(a:Acc)(s:St D):Option (Acc×St D):=
 match b with
 | false=>some (a,s.put o.dst (.one (.lf (.val undef))) [])
 | true=>(match aeo c a o (dB s.slot s.blk o.op) []with
  | true=>none
  | false=>some ((i,dB s.slot s.blk o.op,[])::a,s.put o.dst (.one (.lf (.val undef))) []))
def aaA (T:TypeId->Option Ty)(S:Sh D)(g:FuncId->Option (Ct D))(c:Array Oper)(a:Bool)(o:Oper)(i:Nat)(e:Acc)(s:St D):Option (Acc×St D):=
 match o.guard with
 | none=>Bf T S g c a o i e s
 | some (j,f)=>(match(c[j]?).bind (·.dst)with
  | none=>none
  | some d=>(match s.slot d with
   | .one (.lf (.bool b))=>cond b
     (cond f (Bf T S g c a o i e ⟨(d, .one (.lf (.val (.bool true))))::s.tmps,s.blks,s.next⟩) (Oe c a o i e ⟨(d, .one (.lf (.val (.bool true))))::s.tmps,s.blks,s.next⟩))
     (cond f (Oe c a o i e ⟨(d, .one (.lf (.val (.bool false))))::s.tmps,s.blks,s.next⟩) (Bf T S g c a o i e ⟨(d, .one (.lf (.val (.bool false))))::s.tmps,s.blks,s.next⟩))
   | .one (.lf (.val (.bool b)))=>(match b==f with
    | true=>Bf T S g c a o i e s
    | false=>Oe c a o i e s)
   | .one (.lf (.val v))=>(match FC v with
    | true=>Oe c a o i e s
    | false=>none)
   | _=>none))
def amO (T:TypeId->Option Ty)(S:Sh D)(d:FuncId->Option (Ct D))(c:Array Oper)(n:Nat)(b:Bool):List Oper->Nat->Acc->St D->Option (St D)
 | [],i,_,s=>some ⟨s.tmps,s.blks,s.next+64*i⟩
 | o::r,i,a,s=>
  match Vr n o.dst with
  | false=>none
  | true=>(match aaA T S d c b o i a s with
   | none=>none
   | some (a,s)=>amO T S d c n b r (i+1) a s)
def UN (T:TypeId->Option Ty)(S:Sh D)(d:FuncId->Option (Ct D))(n m:Nat):Code->St D->Option (Ex×St D)
 | .skip,s=>some (.normal,s)
 | .region _ ops f,s=>(match amO T S d ops n f ops.toList 0 [] s with
  | none=>none
  | some s=>some (.normal,s))
 | .seq a b,s=>(match UN T S d n m a s with
  | none=>none
  | some (e,s)=>(match e with
   | .normal=>UN T S d n m b s
   | .exit i=>some (.exit i,s)
   | .ret=>some (.ret,s)))
 | .cond c x y,s=>(match aB s.slot c with
  | .one (.lf (.bool b))=>cond b (UN T S d n m x s) (UN T S d n m y s)
  | .one (.lf (.val (.bool true)))=>UN T S d n m x s
  | .one (.lf (.val (.bool false)))=>UN T S d n m y s
  | _=>none)
 | .block id b,s=>(match UN T S d n m b s with
  | none=>none
  | some (e,s)=>(match e with
   | .normal=>some (.normal,s)
   | .exit j=>(match Nat.beq j id with
    | true=>some (.normal,s)
    | false=>some (.exit j,s))
   | .ret=>some (.ret,s)))
 | .loop b,s=>(match Nat.blt (l_ b) 100000 with
  | false=>none
  | true=>Nat.rec (motive:=fun _=>St D->Option (Ex×St D)) (fun _=>none) (fun _ g s=>match UN T S d n m b s with
   | none=>none
   | some (e,s)=>(match e with
    | .normal=>g s
    | .exit i=>some (.exit i,s)
    | .ret=>some (.ret,s))) m s)
 | .exit id,s=>some (.exit id,s)
 | .ret,s=>some (.ret,s)
 | .scope b,s=>UN T S d n m b s
 | .label _,s=>some (.normal,s)
 | _,_=>none
end
section
variable {D:Type}{S:Sh D}{T:TypeId->Option Ty}{Γ:FuncId->Option (Ct D)}{R:Type}
theorem apE {p:Option DP}{k:Tr D R}(h:okD p=true):((RP D R).opt p k).go=k.go:=by
 cases p with
 | none=>rfl
 | some q=>
  have h:q.b=true:=h;show cond q.b k.go none=k.go
  rw[h];rfl
theorem fast_ok {a:Nat->Sl D}{c:Nat->Option (Bk D)}{fr:Nat}{j:Op}{v:Sl D}(h:akq T a c j=some v):Cm a c j=none/\rY T S Γ a c fr j=some ⟨none,v,[]⟩:=by
 unfold akq at h;split at h
 ·injection h with h;subst h;exact⟨rfl,by simp[rY,nN,kR,ig,wJ,vF,lX,vC,sK]⟩
 ·injection h with h;subst h;exact⟨rfl,by simp[rY,nN,kR,ig,wJ,vF,lX,vC,sK]⟩
 ·rename_i t x f;split at h
  ·rename_i l o g;split at h
   ·cases h
   ·rename_i r k;split at h
    ·rename_i q p b n;split at h
     ·cases h
     ·rename_i d;injection h with h
      subst h;refine⟨rfl,?_⟩;have d:¬p=0:=fun e=>d qcz
      simp[rY,nN,kR,ig,wJ,vF,lX,vC,sK,wQ,g,k,n,lD,d]
    ·cases h
  ·cases h
 ·rename_i x i;split at h
  ·rename_i s g;split at h
   ·rename_i y m;injection h with h
    subst h;exact⟨rfl,by simp[rY,nN,kR,ig,wJ,vF,lX,vC,sK,zU,g,m]⟩
   ·cases h
  ·cases h
 ·cases h
theorem RG {e:Array Oper}{a:Bool}{o:Oper}{i:Nat}{d b:Acc}{s j:St D}{c:Out D}{k:Acc->St D->Tr D R}(h:OY T S Γ e a o i d s c=some (b,j)):(stepW (RP D R) e a o i d s c k).go=(k b j).go:=by
 unfold OY at h;split at h
 ·cases h
 ·rename_i l;unfold stepW;cases a with
  | false=>
   injection h with h
   injection h with g f
   subst g f;exact apE l
  | true=>
   dsimp only at h⊢;split at h
   ·cases h
   ·rename_i m;injection h with h
    injection h with g f
    subst g f;rw[lW (by simp[m])];exact apE l
theorem Fz {d:Array Oper}{a:Bool}{o:Oper}{i:Nat}{e c:Acc}{s g:St D}{k:Acc->St D->Tr D R}(h:Bf T S Γ d a o i e s=some (c,g)):(D5 (RP D R) T S Γ d a o i e s k).go=(k c g).go:=by
 unfold Bf at h;split at h
 ·rename_i v l;injection h with h
  injection h with p m
  subst p m;obtain⟨n,q⟩:=fast_ok (S:=S) (Γ:=Γ) (fr:=s.next+64*i) l;unfold D5;rw[n,q];rfl
 ·unfold D5;split at h
  ·rename_i b t u f;rw[f];cases b with
   | true=>exact RG h
   | false=>exact RG h
  ·rename_i f;rw[f];split at h
   ·cases h
   ·rename_i r j;rw[j];exact RG h
theorem JL {d:Array Oper}{a:Bool}{o:Oper}{i:Nat}{c b:Acc}{s g:St D}{k:Acc->St D->Tr D R}(h:Oe d a o i c s=some (b,g)):(FW (RP D R) d a o i c s k).go=(k b g).go:=by
 unfold Oe at h;unfold FW;cases a with
 | false=>
  injection h with h
  injection h with f e
  subst f e;rfl
 | true=>
  dsimp only at h⊢;split at h
  ·cases h
  ·rename_i j;injection h with h
   injection h with f e
   subst f e;rw[lW (by simp[j])]
theorem aky {t:Array Oper}{n:Nat}{g:Bool}{K:St D->Tr D R}:∀{l:List Oper} {i:Nat} {f:Acc} {s q:St D},amO T S Γ t n g l i f s=some q->(mP (RP D R) T S Γ t n g l i f s K).go=(K q).go
 | [],i,f,s,q,h=>by
  injection h with h
  subst h;rfl
 | o::r,i,f,s,q,h=>by
  unfold amO at h;unfold mP;split at h
  ·cases h
  ·rename_i z;rw[z];dsimp only;split at h
   ·cases h
   ·rename_i A B a;have c:=aky (K:=K) h;unfold aaA at a;split at a
    ·rename_i p;rw[p];dsimp only;rw[Fz a];exact c
    ·rename_i j u p;rw[p];dsimp only;split at a
     ·cases a
     ·rename_i d x;rw[x];dsimp only;split at a
      ·rename_i b m;rw[m];cases b<;>cases u
       ·simp only[qH]at a;show Tr.go (D5 _ _ _ _ _ _ _ _ _ _ _)=_
        rw[Fz a];exact c
       ·simp only[qH,AC]at a;show Tr.go (FW _ _ _ _ _ _ _ _)=_
        rw[JL a];exact c
       ·simp only[qH,AC]at a;show Tr.go (FW _ _ _ _ _ _ _ _)=_
        rw[JL a];exact c
       ·simp only[AC]at a;show Tr.go (D5 _ _ _ _ _ _ _ _ _ _ _)=_
        rw[Fz a];exact c
      ·rename_i b m;rw[m];dsimp only;split at a
       ·rename_i k;rw[k];dsimp only;rw[Fz a];exact c
       ·rename_i k;rw[k];dsimp only;rw[JL a];exact c
      ·rename_i v w m;rw[m];split at a
       ·rename_i k;split
        ·rename_i b e;cases e
        ·rename_i b e;injection e with e;injection e with e;injection e with e
         exact absurd e (w b)
        ·rename_i C _ e;injection e with e;injection e with e;injection e with e
         subst e;rw[k];dsimp only;rw[JL a];exact c
        ·rename_i E y;exact absurd rfl (y v)
       ·cases a
      ·cases a
theorem UV {s:St D}{k:Tr D R}:∀{l:List Oper},(Rn S s k l).go=k.go
 | []=>rfl
 | o::r=>by
  unfold Rn;split
  ·exact UV (l:=r)
  ·exact UV (l:=r)
theorem adw {n i:Nat}(h:i < 600000):JU (D:=D) n i=none:=by
 unfold JU;have:Nat.ble 600000 i=false:=by
  cases e:Nat.ble 600000 i with
  | true=>have:=U5 e;omega
  | false=>rfl
 simp[this]
theorem aEc {n i:Nat}(h:700000<=i):JU (D:=D) n i=none:=by
 unfold JU;have:Nat.blt i 700000=false:=by
  cases e:Nat.blt i 700000 with
  | true=>rw[CE]at e;omega
  | false=>rfl
 simp[this]
theorem ayi {n i:Nat}(h:i < 100000):JU (D:=D) n (600000+i)=some (shN n):=by
 unfold JU;have b:Nat.ble 600000 (600000+i)=true:=Nat.ble_eq_true_of_le au;have a:Nat.blt (600000+i) 700000=true:=by rw[CE];omega
 simp[b,a]
def zT:Code->Bool
 | .seq a b=>Nat.blt (l_ b) 100000 && zT a && zT b
 | .cond _ a b=>zT a && zT b
 | .block _ b=>zT b
 | .loop b=>Nat.blt (l_ b) 100000 && zT b
 | .scope b=>zT b
 | _=>true
theorem aE4 {n m:Nat}:∀(c:Code),zT c=true->∀{s d:St D} {e:Ex} {K:Ex->St D->Tr D R},UN T S Γ n m c s=some (e,d)->(H9 T S Γ n (JU m) c R s K).go=(K e d).go:=by
 intro c;induction c with
 | skip=>intro _ s d e K h;injection h with h;injection h with p r;subst p r;rfl
 | region id ops I=>
  intro _ s d e K h;unfold UN at h;split at h
  ·cases h
  ·rename_i w p;injection h with h
   injection h with g o
   subst g o;unfold H9;rw[aky p,UV,aEc (show 700000<=800000+id by omega)]
 | seq a b G H=>
  intro f s d e K h;simp only[zT,iT,CE]at f;unfold UN at h;unfold H9;rw[adw (show 100000+l_ b < 600000 by omega)];dsimp only;split at h
  ·cases h
  ·rename_i u w p;rw[G f.1.2 p];cases u with
   | normal=>exact H f.2 h
   | exit i=>injection h with h;injection h with g o;subst g o;rfl
   | ret=>injection h with h;injection h with g o;subst g o;rfl
 | cond c x y z A=>
  intro f s d e K h;simp only[zT,iT]at f;unfold UN at h;unfold H9;split at h
  ·rename_i b v;rw[v];cases b with
   | true=>exact z f.1 h
   | false=>exact A f.2 h
  ·rename_i v;rw[v];exact z f.1 h
  ·rename_i v;rw[v];exact A f.2 h
  ·cases h
 | block id b q=>
  intro f s d e K h;unfold UN at h;unfold H9;split at h
  ·cases h
  ·rename_i u w p;rw[q f p];cases u with
   | normal=>injection h with h;injection h with g o;subst g o;rfl
   | exit j=>
    dsimp only at h⊢;split at h
    ·rename_i B;rw[B];injection h with h;injection h with g o;subst g o;rfl
    ·rename_i B;rw[B];injection h with h;injection h with g o;subst g o;rfl
   | ret=>injection h with h;injection h with g o;subst g o;rfl
 | loop b q=>
  intro f s d e K h;simp only[zT,iT,CE]at f;unfold UN at h;split at h
  ·cases h
  unfold H9;rw[adw (show l_ b < 600000 by omega)];dsimp only;rw[ayi f.1];dsimp only;have t:((shN (D:=D) m).its fun _=> .one (.lf .any)).length=m:=by simp[shN]
  rw[t];clear t;rename_i E;clear E;have C:∀(k:Nat) (s:St D),(Nat.rec (motive:=fun _=>St D->Option (Ex×St D)) (fun _=>none) (fun _ q s=>match UN T S Γ n m b s with
   | none=>none
   | some (e,s)=>(match e with
    | .normal=>q s
    | .exit i=>some (.exit i,s)
    | .ret=>some (.ret,s))) k s)=some (e,d)->Tr.go (Nat.rec (motive:=fun _=>St D->Tr D R) (fun s=> .halt (700000+l_ b) s) (fun _ q s=>H9 T S Γ n (JU m) b R s fun e d=>
    match e with
    | .normal=>q d
    | .exit i=>K (.exit i) d
    | .ret=>K .ret d) k s)=(K e d).go:=by
   intro k;induction k with
   | zero=>intro s h;cases h
   | succ k F=>
    intro s h;dsimp only at h⊢;split at h
    ·cases h
    ·rename_i u w p;rw[q f.2 p];cases u with
     | normal=>exact F w h
     | exit i=>injection h with h;injection h with g o;subst g o;rfl
     | ret=>injection h with h;injection h with g o;subst g o;rfl
  exact C m s h
 | exit id=>intro _ s d e K h;injection h with h;injection h with p r;subst p r;rfl
 | ret=>intro _ s d e K h;injection h with h;injection h with p r;subst p r;rfl
 | scope b q=>intro f s d e K h;exact q f h
 | label l=>intro _ s d e K h;injection h with h;injection h with p r;subst p r;rfl
 | _=>intro _ s d e K h;cases h
end
end Go.Vc

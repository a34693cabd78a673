/- Own engine: Ved. -/
import Derived.Test.YtenjjcfebflefaaGreatDoorEng11
set_option linter.unusedVariables false
set_option linter.unusedSimpArgs false
namespace Go.Vc
open Go.RowKit
section
variable {D:Type}
def Tr.go:{R:Type}->Tr D R->Option R
 | _, .ret r=>some r
 | _, .ob p k=>cond p.b k.go none
 | _, .as _ k=>k.go
 | _, .br b t e=>cond b t.go e.go
 | _, .stuck _=>none
 | _, .halt _ _=>none
 | _, .unk _ _ _=>none
 | _, .loop _ _ _=>none
 | _, .cut _ _ _=>none
theorem Tr.ZG:∀{R:Type} (t:Tr D R) (r:R),t.go=some r->t.run r=some r
 | _, .ret r,a,h=>h
 | _, .ob p k,a,h=>by
  cases c:p.b with
  | true=>
   have h:cond p.b k.go none=some a:=h;rw[c]at h;simp only[Tr.run];rw[zi (p.h c)];exact Tr.ZG k a h
  | false=>
   have h:cond p.b k.go none=some a:=h
   grind
 | _, .as p k,a,h=>by
  have:=Tr.ZG k a h;simp only[Tr.run];by_cases d:p
  ·rw[AO d];exact this
  ·rw[ER d]
 | _, .br b t e,a,h=>by
  cases b with
  | true=>exact Tr.ZG t a h
  | false=>exact Tr.ZG e a h
 | _, .stuck _,a,h=>by cases h
 | _, .halt _ _,a,h=>by cases h
 | _, .unk _ _ _,a,h=>by cases h
 | _, .loop _ _ _,a,h=>by cases h
 | _, .cut _ _ _,a,h=>by cases h
def shN (n:Nat):FT D:=⟨Unit,fun _=>List.replicate n (.iter 0),fun _=>[],fun _=>none⟩
def JU (n:Nat):Nat->Option (FT D):=fun i=>if Nat.ble 600000 i && Nat.blt i 700000 then some (shN n)else none
theorem aHn {S:Sh D}{n:Nat}:∀i a,JU n i=some a->rD S a:=fun i a h=>by
 unfold JU at h;split at h
 ·injection h with h
  subst h;exact⟨fun cs x b=>by cases b⟩
 ·cases h
abbrev Acc:=List (Nat×List Nat×List Nat)
def okD:Option DP->Bool
 | none=>true
 | some p=>p.b
def anj (T:TypeId->Option Ty)(a:Nat->Sl D)(h:Nat->Option (Bk D))(e:Op):Option (Sl D):=
 match e with
 | .move x=>some (aG a x)
 | .assign x=>some (aG a x)
 | .fieldAddr t x f=>(match aG a x with
  | .one (.lf (.ptr l o))=>(match T t with
   | none=>none
   | some c=>(match c.amQ[f]? with
    | some (b,d,_)=>if Nat.beq d 0 then none else some (.one (.lf (.ptr l (o+b))))
    | none=>none))
  | _=>none)
 | .extract x i=>(match aG a x with
  | .wU g=>(match g[i]? with
   | some y=>some (.one y)
   | none=>none)
  | _=>none)
 | _=>none
def Q_ (T:TypeId->Option Ty)(S:Sh D)(e:FuncId->Option (Ct D))(d:Array Oper)(c:Bool)(o:Oper)(i:Nat)(b:Acc)(s:St D)(a:Out D):Option (Acc×St D):=
 match okD a.pre with
 | false=>none
 | true=>(match c with
  | false=>some (b,s.put o.dst a.val a.blks)
  | true=>(match agO d b o (dB s.slot s.blk o.op) (a.blks.map (·.1))with
   | true=>none
   | false=>some ((i,dB s.slot s.blk o.op,a.blks.map (·.1))::b,s.put o.dst a.val a.blks)))
def Eu (T:TypeId->Option Ty)(S:Sh D)(e:FuncId->Option (Ct D))(d:Array Oper)(a:Bool)(o:Oper)(i:Nat)(c:Acc)(s:St D):Option (Acc×St D):=
 match a,anj T s.slot s.blk o.op with
 | false,some v=>some (c,s.put o.dst v [])
 | _,_=>(match FB s.slot s.blk o.op with
  | some (b,g,h)=>Q_ T S e d a o i c s (cond b g h)
  | none=>(match xy T S e s.slot s.blk (s.next+64*i) o.op with
   | none=>none
   | some f=>Q_ T S e d a o i c s f))
def Ro (c:Array Oper)(b:Bool)(o:Oper)(i:Nat)(a:Acc)(s:St D):Option (Acc×St D):=
 match b with
 | false=>some (a,s.put o.dst (.one (.lf (.val undef))) [])
 | true=>(match agO c a o (dB s.slot s.blk o.op) []with
  | true=>none
  | false=>some ((i,dB s.slot s.blk o.op,[])::a,s.put o.dst (.one (.lf (.val undef))) []))
def ae3 (T:TypeId->Option Ty)(S:Sh D)(g:FuncId->Option (Ct D))(c:Array Oper)(a:Bool)(o:Oper)(i:Nat)(e:Acc)(s:St D):Option (Acc×St D):=
 match o.guard with
 | none=>Eu T S g c a o i e s
 | some (j,f)=>(match(c[j]?).bind (·.dst)with
  | none=>none
  | some d=>(match s.slot d with
   | .one (.lf (.bool b))=>cond b
     (cond f (Eu T S g c a o i e ⟨(d, .one (.lf (.val (.bool true))))::s.tmps,s.blks,s.next⟩) (Ro c a o i e ⟨(d, .one (.lf (.val (.bool true))))::s.tmps,s.blks,s.next⟩))
     (cond f (Ro c a o i e ⟨(d, .one (.lf (.val (.bool false))))::s.tmps,s.blks,s.next⟩) (Eu T S g c a o i e ⟨(d, .one (.lf (.val (.bool false))))::s.tmps,s.blks,s.next⟩))
   | .one (.lf (.val (.bool b)))=>(match b==f with
    | true=>Eu T S g c a o i e s
    | false=>Ro c a o i e s)
   | .one (.lf (.val v))=>(match IU v with
    | true=>Ro c a o i e s
    | false=>none)
   | _=>none))
def ar9 (T:TypeId->Option Ty)(S:Sh D)(d:FuncId->Option (Ct D))(c:Array Oper)(n:Nat)(b:Bool):List Oper->Nat->Acc->St D->Option (St D)
 | [],i,_,s=>some ⟨s.tmps,s.blks,s.next+64*i⟩
 | o::r,i,a,s=>
  match YR n o.dst with
  | false=>none
  | true=>(match ae3 T S d c b o i a s with
   | none=>none
   | some (a,s)=>ar9 T S d c n b r (i+1) a s)
def Y6 (T:TypeId->Option Ty)(S:Sh D)(d:FuncId->Option (Ct D))(n m:Nat):Code->St D->Option (Ex×St D)
 | .skip,s=>some (.normal,s)
 | .region _ ops f,s=>(match ar9 T S d ops n f ops.toList 0 [] s with
  | none=>none
  | some s=>some (.normal,s))
 | .seq a b,s=>(match Y6 T S d n m a s with
  | none=>none
  | some (e,s)=>(match e with
   | .normal=>Y6 T S d n m b s
   | .exit i=>some (.exit i,s)
   | .ret=>some (.ret,s)))
 | .cond c x y,s=>(match aG s.slot c with
  | .one (.lf (.bool b))=>cond b (Y6 T S d n m x s) (Y6 T S d n m y s)
  | .one (.lf (.val (.bool true)))=>Y6 T S d n m x s
  | .one (.lf (.val (.bool false)))=>Y6 T S d n m y s
  | _=>none)
 | .block id b,s=>(match Y6 T S d n m b s with
  | none=>none
  | some (e,s)=>(match e with
   | .normal=>some (.normal,s)
   | .exit j=>(match Nat.beq j id with
    | true=>some (.normal,s)
    | false=>some (.exit j,s))
   | .ret=>some (.ret,s)))
 | .loop b,s=>(match Nat.blt (nG b) 100000 with
  | false=>none
  | true=>Nat.rec (motive:=fun _=>St D->Option (Ex×St D)) (fun _=>none) (fun _ g s=>match Y6 T S d n m b s with
   | none=>none
   | some (e,s)=>(match e with
    | .normal=>g s
    | .exit i=>some (.exit i,s)
    | .ret=>some (.ret,s))) m s)
 | .exit id,s=>some (.exit id,s)
 | .ret,s=>some (.ret,s)
 | .scope b,s=>Y6 T S d n m b s
 | .label _,s=>some (.normal,s)
 | _,_=>none
end
section
variable {D:Type}{S:Sh D}{T:TypeId->Option Ty}{Γ:FuncId->Option (Ct D)}{R:Type}
theorem atB {p:Option DP}{k:Tr D R}(h:okD p=true):((We D R).opt p k).go=k.go:=by
 cases p with
 | none=>rfl
 | some q=>
  have h:q.b=true:=h;show cond q.b k.go none=k.go
  rw[h];rfl
theorem fast_ok {a:Nat->Sl D}{c:Nat->Option (Bk D)}{fr:Nat}{j:Op}{v:Sl D}(h:anj T a c j=some v):FB a c j=none/\xy T S Γ a c fr j=some ⟨none,v,[]⟩:=by
 unfold anj at h;split at h
 ·injection h with h;subst h;exact⟨rfl,by rfl⟩
 ·injection h with h;subst h;exact⟨rfl,by rfl⟩
 ·rename_i t x f;split at h
  ·rename_i l o d;split at h
   ·cases h
   ·rename_i r k;split at h
    ·rename_i q m b p;split at h
     ·cases h
     ·rename_i g;injection h with h
      subst h;refine⟨rfl,?_⟩;have g:¬m=0:=fun e=>g qck
      simp[xy,qj,nR,jg,Di,Bi,oL,BF,wH,QC,d,k,p,mM,g]
    ·cases h
  ·cases h
 ·rename_i x i;split at h
  ·rename_i s d;split at h
   ·rename_i y n;injection h with h
    subst h;exact⟨rfl,by simp[xy,qj,nR,jg,Di,Bi,oL,BF,wH,Gi,d,n]⟩
   ·cases h
  ·cases h
 ·cases h
theorem YB {c:Array Oper}{a:Bool}{o:Oper}{i:Nat}{d b:Acc}{s j:St D}{e:Out D}{k:Acc->St D->Tr D R}(h:Q_ T S Γ c a o i d s e=some (b,j)):(stepW (We D R) c a o i d s e k).go=(k b j).go:=by
 unfold Q_ at h;split at h
 ·cases h
 ·rename_i l;unfold stepW;cases a with
  | false=>
   injection h with h
   injection h with g f
   subst g f;exact atB l
  | true=>
   dsimp only at h⊢;split at h
   ·cases h
   ·rename_i m;injection h with h
    injection h with g f
    subst g f;rw[kT (by simp[m])];exact atB l
theorem IE {d:Array Oper}{c:Bool}{o:Oper}{i:Nat}{e a:Acc}{s g:St D}{k:Acc->St D->Tr D R}(h:Eu T S Γ d c o i e s=some (a,g)):(GY (We D R) T S Γ d c o i e s k).go=(k a g).go:=by
 unfold Eu at h;split at h
 ·rename_i v j;injection h with h
  injection h with q l
  subst q l;obtain⟨n,p⟩:=fast_ok (S:=S) (Γ:=Γ) (fr:=s.next+64*i) j;unfold GY;rw[n,p];rfl
 ·unfold GY;split at h
  ·rename_i b u t f;rw[f];cases b with
   | true=>exact YB h
   | false=>exact YB h
  ·rename_i f;rw[f];split at h
   ·cases h
   ·rename_i r m;rw[m];exact YB h
theorem OQ {c:Array Oper}{a:Bool}{o:Oper}{i:Nat}{d b:Acc}{s e:St D}{k:Acc->St D->Tr D R}(h:Ro c a o i d s=some (b,e)):(Jy (We D R) c a o i d s k).go=(k b e).go:=by
 unfold Ro at h;unfold Jy
 grind
theorem anx {t:Array Oper}{n:Nat}{m:Bool}{K:St D->Tr D R}:∀{l:List Oper} {i:Nat} {f:Acc} {s q:St D},ar9 T S Γ t n m l i f s=some q->(nT (We D R) T S Γ t n m l i f s K).go=(K q).go
 | [],i,f,s,q,h=>by
  injection h with h
  subst h;rfl
 | o::r,i,f,s,q,h=>by
  unfold ar9 at h;unfold nT;split at h
  ·cases h
  ·rename_i x;rw[x];dsimp only;split at h
   ·cases h
   ·rename_i z A a;have c:=anx (K:=K) h;unfold ae3 at a;split at a
    ·rename_i k;rw[k];dsimp only;rw[IE a];exact c
    ·rename_i j u k;rw[k];dsimp only;split at a
     ·cases a
     ·rename_i d w;rw[w];dsimp only;split at a
      ·rename_i b p;rw[p];cases b<;>cases u
       ·simp only[jm]at a;show Tr.go (GY _ _ _ _ _ _ _ _ _ _ _)=_
        rw[IE a];exact c
       ·simp only[jm,cond_true]at a;show Tr.go (Jy _ _ _ _ _ _ _ _)=_
        rw[OQ a];exact c
       ·simp only[jm,cond_true]at a;show Tr.go (Jy _ _ _ _ _ _ _ _)=_
        rw[OQ a];exact c
       ·simp only[cond_true]at a;show Tr.go (GY _ _ _ _ _ _ _ _ _ _ _)=_
        rw[IE a];exact c
      ·rename_i b p;rw[p];dsimp only;split at a
       ·rename_i g;rw[g];dsimp only;rw[IE a];exact c
       ·rename_i g;rw[g];dsimp only;rw[OQ a];exact c
      ·rename_i v y p;rw[p];split at a
       ·rename_i g;split
        ·grind
        ·grind
        ·rename_i B _ e;injection e with e;injection e with e;injection e with e
         subst e;rw[g];dsimp only;rw[OQ a];exact c
        grind
       ·cases a
      ·cases a
theorem Zr {s:St D}{k:Tr D R}:∀{l:List Oper},(V9 S s k l).go=k.go
 | []=>rfl
 | o::r=>by
  unfold V9;split
  ·exact Zr (l:=r)
  ·exact Zr (l:=r)
theorem ai8 {n i:Nat}(h:i < 600000):JU (D:=D) n i=none:=by
 unfold JU;have:Nat.ble 600000 i=false:=by
  cases e:Nat.ble 600000 i with
  | true=>have:=Qa0 e;omega
  | false=>rfl
 simp[this]
theorem aFY {n i:Nat}(h:700000<=i):JU (D:=D) n i=none:=by
 unfold JU;simp_all
theorem aBN {n i:Nat}(h:i < 100000):JU (D:=D) n (600000+i)=some (shN n):=by
 unfold JU;have b:Nat.ble 600000 (600000+i)=true:=Nat.ble_eq_true_of_le au;have a:Nat.blt (600000+i) 700000=true:=by rw[Qcd];omega
 simp[b,a]
def CB:Code->Bool
 | .seq a b=>Nat.blt (nG b) 100000 && CB a && CB b
 | .cond _ a b=>CB a && CB b
 | .block _ b=>CB b
 | .loop b=>Nat.blt (nG b) 100000 && CB b
 | .scope b=>CB b
 | _=>true
theorem aDG {n m:Nat}:∀(c:Code),CB c=true->∀{s d:St D} {e:Ex} {K:Ex->St D->Tr D R},Y6 T S Γ n m c s=some (e,d)->(MQ T S Γ n (JU m) c R s K).go=(K e d).go:=by
 intro c;induction c with
 | skip=>intro _ s d e K h;injection h with h;injection h with g o;subst g o;rfl
 | region id ops w=>
  intro _ s d e K h;unfold Y6 at h;split at h
  ·cases h
  ·rename_i B g;injection h with h
   injection h with z A
   subst z A;unfold MQ;rw[anx g,Zr,aFY (show 700000<=800000+id by omega)]
 | seq a b C F=>
  intro f s d e K h;simp only[CB,jA,Qcd]at f;unfold Y6 at h;unfold MQ;rw[ai8 (show 100000+nG b < 600000 by omega)]
  grind
 | cond c x y r t=>
  intro f s d e K h;simp only[CB,jA]at f;unfold Y6 at h;unfold MQ;split at h
  ·rename_i b p;rw[p];cases b with
   | true=>exact r f.1 h
   | false=>exact t f.2 h
  ·rename_i p;rw[p];exact r f.1 h
  ·rename_i p;rw[p];exact t f.2 h
  ·cases h
 | block id b j=>
  intro f s d e K h;unfold Y6 at h;unfold MQ;split at h
  ·cases h
  ·rename_i G B g;rw[j f g]
   grind
 | loop b j=>
  intro f s d e K h;simp only[CB,jA,Qcd]at f;unfold Y6 at h;split at h
  ·cases h
  unfold MQ;rw[ai8 (show nG b < 600000 by omega)];dsimp only;rw[aBN f.1];dsimp only;have q:((shN (D:=D) m).its fun _=> .one (.lf .any)).length=m:=by simp[shN]
  rw[q];clear q;rename_i u;clear u;have v:∀(k:Nat) (s:St D),(Nat.rec (motive:=fun _=>St D->Option (Ex×St D)) (fun _=>none) (fun _ j s=>match Y6 T S Γ n m b s with
   | none=>none
   | some (e,s)=>(match e with
    | .normal=>j s
    | .exit i=>some (.exit i,s)
    | .ret=>some (.ret,s))) k s)=some (e,d)->Tr.go (Nat.rec (motive:=fun _=>St D->Tr D R) (fun s=> .halt (700000+nG b) s) (fun _ j s=>MQ T S Γ n (JU m) b R s fun e d=>
    match e with
    | .normal=>j d
    | .exit i=>K (.exit i) d
    | .ret=>K .ret d) k s)=(K e d).go:=by
   intro k;induction k with
   | zero=>simp_all
   | succ k E=>
    grind
  exact v m s h
 | exit id=>intro _ s d e K h;injection h with h;injection h with g o;subst g o;rfl
 | ret=>intro _ s d e K h;injection h with h;injection h with g o;subst g o;rfl
 | scope b j=>intro f s d e K h;exact j f h
 | label l=>intro _ s d e K h;injection h with h;injection h with g o;subst g o;rfl
 | _=>intro _ s d e K h;cases h
end
end Go.Vc

/- Own engine: Ved. -/
import Derived.Test.YtiibcbmenoaigaaGreatDoorEng11
namespace Go.Vc
open Go.RowKit
set_option linter.unusedVariables false
set_option linter.unusedSimpArgs false
section
variable {D:Type}
def Tr.go:{R:Type}->Tr D R->Option R
 | _, .ret r=>some r
 | _, .ob p k=>cond p.b k.go none
 | _, .as _ k=>k.go
 | _, .br b t e=>cond b t.go e.go
 | _, .stuck _=>none
 | _, .halt _ _=>none
 | _, .unk _ _ _=>none
 | _, .loop _ _ _=>none
 | _, .cut _ _ _=>none
theorem Tr.go_run:∀{R:Type} (t:Tr D R) (r:R),t.go=some r->t.run r=some r
 | _, .ret r,r',h=>h
 | _, .ob p k,r',h=>by
  cases hb:p.b with
  | true=>
   have h:cond p.b k.go none=some r':=h
   rw[hb]at h
   simp only[Tr.run]
   rw[need_pos (p.h hb)]
   exact Tr.go_run k r' h
  | false=>
   have h:cond p.b k.go none=some r':=h
   rw[hb]at h
   cases h
 | _, .as p k,r',h=>by
  have:=Tr.go_run k r' h
  simp only[Tr.run]
  by_cases hp:p
  ·rw[asm_pos hp];exact this
  ·rw[asm_neg hp]
 | _, .br b t e,r',h=>by
  cases b with
  | true=>exact Tr.go_run t r' h
  | false=>exact Tr.go_run e r' h
 | _, .stuck _,r',h=>by cases h
 | _, .halt _ _,r',h=>by cases h
 | _, .unk _ _ _,r',h=>by cases h
 | _, .loop _ _ _,r',h=>by cases h
 | _, .cut _ _ _,r',h=>by cases h
def shN (n:Nat):Shp D:=⟨Unit,fun _=>List.replicate n (.iter 0),fun _=>[],fun _=>none⟩
def JU (n:Nat):Nat->Option (Shp D):=fun i=>if Nat.ble 600000 i && Nat.blt i 700000 then some (shN n)else none
theorem JU_ok {S:Sh D}{n:Nat}:∀i sh,JU n i=some sh->ShpOk S sh:=fun i sh h=>by
 unfold JU at h
 split at h
 ·injection h with h
  subst h
  exact⟨fun cs x hx=>by cases hx⟩
 ·cases h
abbrev Acc:=List (Nat×List Nat×List Nat)
def okD:Option DP->Bool
 | none=>true
 | some p=>p.b
def xFast (T:TypeId->Option Ty)(slot:Nat->Sl D)(blk:Nat->Option (Bk D))(op:Op):Option (Sl D):=
 match op with
 | .move x=>some (opnd slot x)
 | .assign x=>some (opnd slot x)
 | .fieldAddr t x f=>(match opnd slot x with
  | .one (.lf (.ptr l o))=>(match T t with
   | none=>none
   | some ty=>(match ty.offs[f]? with
    | some (off,sz,_)=>if Nat.beq sz 0 then none else some (.one (.lf (.ptr l (o+off))))
    | none=>none))
  | _=>none)
 | .extract x i=>(match opnd slot x with
  | .tup xs=>(match xs[i]? with
   | some y=>some (.one y)
   | none=>none)
  | _=>none)
 | _=>none
def stepU (T:TypeId->Option Ty)(S:Sh D)(Γ:FuncId->Option (Ct D))(ops:Array Oper)(draw:Bool)(o:Oper)(i:Nat)(acc:Acc)(s:St D)(out:Out D):Option (Acc×St D):=
 match okD out.pre with
 | false=>none
 | true=>(match draw with
  | false=>some (acc,s.put o.dst out.val out.blks)
  | true=>(match badB ops acc o (memReads s.slot s.blk o.op) (out.blks.map (·.1))with
   | true=>none
   | false=>some ((i,memReads s.slot s.blk o.op,out.blks.map (·.1))::acc,s.put o.dst out.val out.blks)))
def stepVU (T:TypeId->Option Ty)(S:Sh D)(Γ:FuncId->Option (Ct D))(ops:Array Oper)(draw:Bool)(o:Oper)(i:Nat)(acc:Acc)(s:St D):Option (Acc×St D):=
 match draw,xFast T s.slot s.blk o.op with
 | false,some v=>some (acc,s.put o.dst v [])
 | _,_=>(match xNext s.slot s.blk o.op with
  | some (b,o1,o2)=>stepU T S Γ ops draw o i acc s (cond b o1 o2)
  | none=>(match xOpR T S Γ s.slot s.blk (s.next+64*i) o.op with
   | none=>none
   | some out=>stepU T S Γ ops draw o i acc s out))
def skipU (ops:Array Oper)(draw:Bool)(o:Oper)(i:Nat)(acc:Acc)(s:St D):Option (Acc×St D):=
 match draw with
 | false=>some (acc,s.put o.dst (.one (.lf (.val undef))) [])
 | true=>(match badB ops acc o (memReads s.slot s.blk o.op) []with
  | true=>none
  | false=>some ((i,memReads s.slot s.blk o.op,[])::acc,s.put o.dst (.one (.lf (.val undef))) []))
def guardU (T:TypeId->Option Ty)(S:Sh D)(Γ:FuncId->Option (Ct D))(ops:Array Oper)(draw:Bool)(o:Oper)(i:Nat)(acc:Acc)(s:St D):Option (Acc×St D):=
 match o.guard with
 | none=>stepVU T S Γ ops draw o i acc s
 | some (j,want)=>(match(ops[j]?).bind (·.dst)with
  | none=>none
  | some d=>(match s.slot d with
   | .one (.lf (.bool b))=>cond b
     (cond want (stepVU T S Γ ops draw o i acc ⟨(d, .one (.lf (.val (.bool true))))::s.tmps,s.blks,s.next⟩) (skipU ops draw o i acc ⟨(d, .one (.lf (.val (.bool true))))::s.tmps,s.blks,s.next⟩))
     (cond want (skipU ops draw o i acc ⟨(d, .one (.lf (.val (.bool false))))::s.tmps,s.blks,s.next⟩) (stepVU T S Γ ops draw o i acc ⟨(d, .one (.lf (.val (.bool false))))::s.tmps,s.blks,s.next⟩))
   | .one (.lf (.val (.bool b)))=>(match b==want with
    | true=>stepVU T S Γ ops draw o i acc s
    | false=>skipU ops draw o i acc s)
   | .one (.lf (.val v))=>(match notBool v with
    | true=>skipU ops draw o i acc s
    | false=>none)
   | _=>none))
def opsU (T:TypeId->Option Ty)(S:Sh D)(Γ:FuncId->Option (Ct D))(ops:Array Oper)(n:Nat)(draw:Bool):List Oper->Nat->Acc->St D->Option (St D)
 | [],i,_,s=>some ⟨s.tmps,s.blks,s.next+64*i⟩
 | o::r,i,acc,s=>
  match dstOk n o.dst with
  | false=>none
  | true=>(match guardU T S Γ ops draw o i acc s with
   | none=>none
   | some (acc,s)=>opsU T S Γ ops n draw r (i+1) acc s)
def evU (T:TypeId->Option Ty)(S:Sh D)(Γ:FuncId->Option (Ct D))(n m:Nat):Code->St D->Option (Ex×St D)
 | .skip,s=>some (.normal,s)
 | .region _ ops draw,s=>(match opsU T S Γ ops n draw ops.toList 0 [] s with
  | none=>none
  | some s=>some (.normal,s))
 | .seq a b,s=>(match evU T S Γ n m a s with
  | none=>none
  | some (e,s)=>(match e with
   | .normal=>evU T S Γ n m b s
   | .exit i=>some (.exit i,s)
   | .ret=>some (.ret,s)))
 | .cond c x y,s=>(match opnd s.slot c with
  | .one (.lf (.bool b))=>cond b (evU T S Γ n m x s) (evU T S Γ n m y s)
  | .one (.lf (.val (.bool true)))=>evU T S Γ n m x s
  | .one (.lf (.val (.bool false)))=>evU T S Γ n m y s
  | _=>none)
 | .block id b,s=>(match evU T S Γ n m b s with
  | none=>none
  | some (e,s)=>(match e with
   | .normal=>some (.normal,s)
   | .exit j=>(match Nat.beq j id with
    | true=>some (.normal,s)
    | false=>some (.exit j,s))
   | .ret=>some (.ret,s)))
 | .loop b,s=>(match Nat.blt (loopId b) 100000 with
  | false=>none
  | true=>Nat.rec (motive:=fun _=>St D->Option (Ex×St D)) (fun _=>none) (fun _ ih s=>match evU T S Γ n m b s with
   | none=>none
   | some (e,s)=>(match e with
    | .normal=>ih s
    | .exit i=>some (.exit i,s)
    | .ret=>some (.ret,s))) m s)
 | .exit id,s=>some (.exit id,s)
 | .ret,s=>some (.ret,s)
 | .scope b,s=>evU T S Γ n m b s
 | .label _,s=>some (.normal,s)
 | _,_=>none
end
section
variable {D:Type}{S:Sh D}{T:TypeId->Option Ty}{Γ:FuncId->Option (Ct D)}{R:Type}
theorem go_opt {p:Option DP}{k:Tr D R}(h:okD p=true):((trAlg D R).opt p k).go=k.go:=by
 cases p with
 | none=>rfl
 | some q=>
  have h:q.b=true:=h
  show cond q.b k.go none=k.go
  rw[h];rfl
theorem fast_ok {slot:Nat->Sl D}{blk:Nat->Option (Bk D)}{fr:Nat}{op:Op}{v:Sl D}(h:xFast T slot blk op=some v):xNext slot blk op=none/\xOpR T S Γ slot blk fr op=some ⟨none,v,[]⟩:=by
 unfold xFast at h
 split at h
 ·injection h with h;subst h;exact⟨rfl,by simp[xOpR,xNew,xCool2,coolable2,xOpQ,xOpD,xMore,xOpC,xOp]⟩
 ·injection h with h;subst h;exact⟨rfl,by simp[xOpR,xNew,xCool2,coolable2,xOpQ,xOpD,xMore,xOpC,xOp]⟩
 ·rename_i t x f
  split at h
  ·rename_i l o hx
   split at h
   ·cases h
   ·rename_i ty hty
    split at h
    ·rename_i off sz b ho
     split at h
     ·cases h
     ·rename_i hz
      injection h with h
      subst h
      refine⟨rfl,?_⟩
      have hz:¬sz=0:=fun e=>hz (by rw[e];rfl)
      simp[xOpR,xNew,xCool2,coolable2,xOpQ,xOpD,xMore,xOpC,xOp,xField,hx,hty,ho,lfO,hz]
    ·cases h
  ·cases h
 ·rename_i x i
  split at h
  ·rename_i xs hx
   split at h
   ·rename_i y hy
    injection h with h
    subst h
    exact⟨rfl,by simp[xOpR,xNew,xCool2,coolable2,xOpQ,xOpD,xMore,xOpC,xOp,xExtract,hx,hy]⟩
   ·cases h
  ·cases h
 ·cases h
theorem stepU_go {ops:Array Oper}{draw:Bool}{o:Oper}{i:Nat}{acc acc':Acc}{s s':St D}{out:Out D}{k:Acc->St D->Tr D R}(h:stepU T S Γ ops draw o i acc s out=some (acc',s')):(stepW (trAlg D R) ops draw o i acc s out k).go=(k acc' s').go:=by
 unfold stepU at h
 split at h
 ·cases h
 ·rename_i hp
  unfold stepW
  cases draw with
  | false=>
   injection h with h
   injection h with h1 h2
   subst h1 h2
   exact go_opt hp
  | true=>
   dsimp only at h⊢
   split at h
   ·cases h
   ·rename_i hb
    injection h with h
    injection h with h1 h2
    subst h1 h2
    rw[if_neg (by simp[hb])]
    exact go_opt hp
theorem stepVU_go {ops:Array Oper}{draw:Bool}{o:Oper}{i:Nat}{acc acc':Acc}{s s':St D}{k:Acc->St D->Tr D R}(h:stepVU T S Γ ops draw o i acc s=some (acc',s')):(stepV (trAlg D R) T S Γ ops draw o i acc s k).go=(k acc' s').go:=by
 unfold stepVU at h
 split at h
 ·rename_i v hv
  injection h with h
  injection h with h1 h2
  subst h1 h2
  obtain⟨q1,q2⟩:=fast_ok (S:=S) (Γ:=Γ) (fr:=s.next+64*i) hv
  unfold stepV
  rw[q1,q2]
  rfl
 ·unfold stepV
  split at h
  ·rename_i b o1 o2 hx
   rw[hx]
   cases b with
   | true=>exact stepU_go h
   | false=>exact stepU_go h
  ·rename_i hx
   rw[hx]
   split at h
   ·cases h
   ·rename_i out ho
    rw[ho]
    exact stepU_go h
theorem skipU_go {ops:Array Oper}{draw:Bool}{o:Oper}{i:Nat}{acc acc':Acc}{s s':St D}{k:Acc->St D->Tr D R}(h:skipU ops draw o i acc s=some (acc',s')):(skipV (trAlg D R) ops draw o i acc s k).go=(k acc' s').go:=by
 unfold skipU at h
 unfold skipV
 cases draw with
 | false=>
  injection h with h
  injection h with h1 h2
  subst h1 h2
  rfl
 | true=>
  dsimp only at h⊢
  split at h
  ·cases h
  ·rename_i hb
   injection h with h
   injection h with h1 h2
   subst h1 h2
   rw[if_neg (by simp[hb])]
theorem opsU_go {ops:Array Oper}{n:Nat}{draw:Bool}{K:St D->Tr D R}:∀{l:List Oper} {i:Nat} {acc:Acc} {s s':St D},opsU T S Γ ops n draw l i acc s=some s'->(runOps (trAlg D R) T S Γ ops n draw l i acc s K).go=(K s').go
 | [],i,acc,s,s',h=>by
  injection h with h
  subst h
  rfl
 | o::r,i,acc,s,s',h=>by
  unfold opsU at h
  unfold runOps
  split at h
  ·cases h
  ·rename_i hd
   rw[hd]
   dsimp only
   split at h
   ·cases h
   ·rename_i acc1 s1 hg
    have ih:=opsU_go (K:=K) h
    unfold guardU at hg
    split at hg
    ·rename_i hgd
     rw[hgd]
     dsimp only
     rw[stepVU_go hg]
     exact ih
    ·rename_i j want hgd
     rw[hgd]
     dsimp only
     split at hg
     ·cases hg
     ·rename_i d hdd
      rw[hdd]
      dsimp only
      split at hg
      ·rename_i b hs
       rw[hs]
       cases b<;>cases want
       ·simp only[cond_false]at hg
        show Tr.go (stepV _ _ _ _ _ _ _ _ _ _ _)=_
        rw[stepVU_go hg];exact ih
       ·simp only[cond_false,cond_true]at hg
        show Tr.go (skipV _ _ _ _ _ _ _ _)=_
        rw[skipU_go hg];exact ih
       ·simp only[cond_false,cond_true]at hg
        show Tr.go (skipV _ _ _ _ _ _ _ _)=_
        rw[skipU_go hg];exact ih
       ·simp only[cond_true]at hg
        show Tr.go (stepV _ _ _ _ _ _ _ _ _ _ _)=_
        rw[stepVU_go hg];exact ih
      ·rename_i b hs
       rw[hs]
       dsimp only
       split at hg
       ·rename_i hb
        rw[hb]
        dsimp only
        rw[stepVU_go hg];exact ih
       ·rename_i hb
        rw[hb]
        dsimp only
        rw[skipU_go hg];exact ih
      ·rename_i v hnb hs
       rw[hs]
       split at hg
       ·rename_i hb
        split
        ·rename_i b e;cases e
        ·rename_i b e
         injection e with e;injection e with e;injection e with e
         exact absurd e (hnb b)
        ·rename_i v' _ e
         injection e with e;injection e with e;injection e with e
         subst e
         rw[hb]
         dsimp only
         rw[skipU_go hg];exact ih
        ·rename_i e1 e2;exact absurd rfl (e2 v)
       ·cases hg
      ·cases hg
theorem asAll_go {s:St D}{k:Tr D R}:∀{l:List Oper},(asAll S s k l).go=k.go
 | []=>rfl
 | o::r=>by
  unfold asAll
  split
  ·exact asAll_go (l:=r)
  ·exact asAll_go (l:=r)
theorem JU_small {n i:Nat}(h:i < 600000):JU (D:=D) n i=none:=by
 unfold JU
 have:Nat.ble 600000 i=false:=by
  cases e:Nat.ble 600000 i with
  | true=>have:=Nat.le_of_ble_eq_true e;omega
  | false=>rfl
 simp[this]
theorem JU_big {n i:Nat}(h:700000<=i):JU (D:=D) n i=none:=by
 unfold JU
 have:Nat.blt i 700000=false:=by
  cases e:Nat.blt i 700000 with
  | true=>rw[Nat.blt_eq]at e;omega
  | false=>rfl
 simp[this]
theorem JU_loop {n i:Nat}(h:i < 100000):JU (D:=D) n (600000+i)=some (shN n):=by
 unfold JU
 have h1:Nat.ble 600000 (600000+i)=true:=Nat.ble_eq_true_of_le (by omega)
 have h2:Nat.blt (600000+i) 700000=true:=by rw[Nat.blt_eq];omega
 simp[h1,h2]
def idsOk:Code->Bool
 | .seq a b=>Nat.blt (loopId b) 100000 && idsOk a && idsOk b
 | .cond _ a b=>idsOk a && idsOk b
 | .block _ b=>idsOk b
 | .loop b=>Nat.blt (loopId b) 100000 && idsOk b
 | .scope b=>idsOk b
 | _=>true
theorem evU_go {n m:Nat}:∀(c:Code),idsOk c=true->∀{s s':St D} {e:Ex} {K:Ex->St D->Tr D R},evU T S Γ n m c s=some (e,s')->(evC T S Γ n (JU m) c R s K).go=(K e s').go:=by
 intro c
 induction c with
 | skip=>intro _ s s' e K h;injection h with h;injection h with h1 h2;subst h1 h2;rfl
 | region id ops draw=>
  intro _ s s' e K h
  unfold evU at h
  split at h
  ·cases h
  ·rename_i s1 h1
   injection h with h
   injection h with q1 q2
   subst q1 q2
   unfold evC
   rw[opsU_go h1,asAll_go,JU_big (show 700000<=800000+id by omega)]
 | seq a b iha ihb=>
  intro hi s s' e K h
  simp only[idsOk,Bool.and_eq_true,Nat.blt_eq]at hi
  unfold evU at h
  unfold evC
  rw[JU_small (show 100000+loopId b < 600000 by omega)]
  dsimp only
  split at h
  ·cases h
  ·rename_i e1 s1 h1
   rw[iha hi.1.2 h1]
   cases e1 with
   | normal=>exact ihb hi.2 h
   | exit i=>injection h with h;injection h with q1 q2;subst q1 q2;rfl
   | ret=>injection h with h;injection h with q1 q2;subst q1 q2;rfl
 | cond c x y ihx ihy=>
  intro hi s s' e K h
  simp only[idsOk,Bool.and_eq_true]at hi
  unfold evU at h
  unfold evC
  split at h
  ·rename_i b hb
   rw[hb]
   cases b with
   | true=>exact ihx hi.1 h
   | false=>exact ihy hi.2 h
  ·rename_i hb;rw[hb];exact ihx hi.1 h
  ·rename_i hb;rw[hb];exact ihy hi.2 h
  ·cases h
 | block id b ih=>
  intro hi s s' e K h
  unfold evU at h
  unfold evC
  split at h
  ·cases h
  ·rename_i e1 s1 h1
   rw[ih hi h1]
   cases e1 with
   | normal=>injection h with h;injection h with q1 q2;subst q1 q2;rfl
   | exit j=>
    dsimp only at h⊢
    split at h
    ·rename_i hj;rw[hj];injection h with h;injection h with q1 q2;subst q1 q2;rfl
    ·rename_i hj;rw[hj];injection h with h;injection h with q1 q2;subst q1 q2;rfl
   | ret=>injection h with h;injection h with q1 q2;subst q1 q2;rfl
 | loop b ih=>
  intro hi s s' e K h
  simp only[idsOk,Bool.and_eq_true,Nat.blt_eq]at hi
  unfold evU at h
  split at h
  ·cases h
  unfold evC
  rw[JU_small (show loopId b < 600000 by omega)]
  dsimp only
  rw[JU_loop hi.1]
  dsimp only
  have hlen:((shN (D:=D) m).its fun _=> .one (.lf .any)).length=m:=by simp[shN]
  rw[hlen]
  clear hlen
  rename_i hlt
  clear hlt
  have key:∀(k:Nat) (s:St D),(Nat.rec (motive:=fun _=>St D->Option (Ex×St D)) (fun _=>none) (fun _ ih s=>match evU T S Γ n m b s with
   | none=>none
   | some (e,s)=>(match e with
    | .normal=>ih s
    | .exit i=>some (.exit i,s)
    | .ret=>some (.ret,s))) k s)=some (e,s')->Tr.go (Nat.rec (motive:=fun _=>St D->Tr D R) (fun s=> .halt (700000+loopId b) s) (fun _ ih s=>evC T S Γ n (JU m) b R s fun e s'=>
    match e with
    | .normal=>ih s'
    | .exit i=>K (.exit i) s'
    | .ret=>K .ret s') k s)=(K e s').go:=by
   intro k
   induction k with
   | zero=>intro s h;cases h
   | succ k ihk=>
    intro s h
    dsimp only at h⊢
    split at h
    ·cases h
    ·rename_i e1 s1 h1
     rw[ih hi.2 h1]
     cases e1 with
     | normal=>exact ihk s1 h
     | exit i=>injection h with h;injection h with q1 q2;subst q1 q2;rfl
     | ret=>injection h with h;injection h with q1 q2;subst q1 q2;rfl
  exact key m s h
 | exit id=>intro _ s s' e K h;injection h with h;injection h with h1 h2;subst h1 h2;rfl
 | ret=>intro _ s s' e K h;injection h with h;injection h with h1 h2;subst h1 h2;rfl
 | scope b ih=>intro hi s s' e K h;exact ih hi h
 | label l=>intro _ s s' e K h;injection h with h;injection h with h1 h2;subst h1 h2;rfl
 | _=>intro _ s s' e K h;cases h
end
end Go.Vc

/- Own engine: Vgo. -/
import Derived.Test.YtenjnekcoapajaaGreatDoorEng8
import Derived.ScopeJumps
set_option linter.unusedVariables false
set_option linter.unusedSimpArgs false
namespace Go.Vc
open Go.RowKit
def restOf:Code->Option (Nat×Code)
 | .seq a b=>(match a with
  | .label l=>some (l,b)
  | a=>(match restOf b with
   | some (l,r)=>(match findLabel a l with
    | none=>some (l,r)
    | some _=>none)
   | none=>none))
 | _=>none
section
variable {D:Type}
def evP (T:TypeId->Option Ty)(S:Sh D)(c:FuncId->Option (Ct D))(n:Nat)(J:Nat->Option (Shp D)):Code->(R:Type)->St D->(Ex->St D->Tr D R)->(St D->Tr D R)->Tr D R
 | .seq a b,R,s,K,L=>(match a with
  | .label _=>L s
  | a=>evC T S c n J a R s fun e s=>match e with
   | .normal=>evP T S c n J b R s K L
   | .exit i=>K (.exit i) s
   | .ret=>K .ret s)
 | _,_,s,_,_=> .halt 10 s
def jumpK {R:Type}(a:Shp D)(l:Nat)(W:List Nat)(s0:St D)(K:Ex->St D->Tr D R):Ex->St D->Tr D (a.X⊕R)
 | .normal,s=>(K .normal s).map (a.X⊕R) .inr
 | .exit i,s=>(match Nat.beq i (1000000+l)with
  | true=>(match decX a W s0 s with
   | some x=> .ret (.inl x)
   | none=> .halt (500000+l) s)
  | false=>(K (.exit i) s).map (a.X⊕R) .inr)
 | .ret,s=>(K .ret s).map (a.X⊕R) .inr
def evL (T:TypeId->Option Ty)(S:Sh D)(c:FuncId->Option (Ct D))(n:Nat)(J:Nat->Option (Shp D))(R:Type)(a:Shp D)(l:Nat)(r:Code)(K:Ex->St D->Tr D R)(s:St D):Tr D R:=
 match decX a (writes r) s s with
 | none=> .halt (400000+l) s
 | some b=> .loop a.X b fun x=>evC T S c n J r (a.X⊕R) (headSt (a.its s.slot) (writes r) s (a.enc x)) (jumpK a l (writes r) s K)
def evT (T:TypeId->Option Ty)(S:Sh D)(d:FuncId->Option (Ct D))(n:Nat)(J:Nat->Option (Shp D))(c:Code)(R:Type)(s:St D)(K:Ex->St D->Tr D R):Tr D R:=
 match c with
 | .seq a c=>(match c with
  | .scope b=>(match restOf b with
   | some (l,r)=>(match J (900000+l)with
    | some f=>evC T S d n J a R s fun e s=>(match e with
     | .normal=>evP T S d n J b R s (scopeK (.halt 9) K) (evL T S d n J R f l r (scopeK (.halt 9) K))
     | .exit i=>K (.exit i) s
     | .ret=>K .ret s)
    | none=>evC T S d n J (.seq a (.scope b)) R s K)
   | none=>evC T S d n J (.seq a (.scope b)) R s K)
  | c=>evC T S d n J (.seq a c) R s K)
 | c=>evC T S d n J c R s K
end
theorem restOf_find:∀{c:Code} {l:Nat} {r:Code},restOf c=some (l,r)->findLabel c l=some (.seq .skip r)
 | .seq a b,l,r,h=>by
  unfold restOf at h;split at h
  ·injection h with h
   injection h with d e
   subst d e;simp[findLabel]
  ·split at h
   ·rename_i j i g;split at h
    ·rename_i f;injection h with h
     injection h with d e
     subst d e;have:=restOf_find g;simp[findLabel,f,this]
    ·cases h
   ·cases h
 | .skip,_,_,h | .region ..,_,_,h | .cond ..,_,_,h | .block ..,_,_,h | .loop _,_,_,h | .rangeFunc ..,_,_,h | .exit _,_,_,h | .scope _,_,_,h | .label _,_,_,h | .goto _,_,_,h | .ret,_,_,h | .refuse _,_,_,h=>by cases h
theorem restOf_writes:∀{c:Code} {l:Nat} {r:Code},restOf c=some (l,r)->(∀t,t∈writes r->t∈writes c)/\(drawsOk c=true->drawsOk r=true)
 | .seq a b,l,r,h=>by
  simp only[writes,drawsOk,iZ,vO];unfold restOf at h;split at h
  ·grind
  ·split at h
   ·rename_i k j e;split at h
    ·injection h with h
     injection h with d f
     subst d f;obtain⟨i,g⟩:=restOf_writes e
     grind
    ·cases h
   ·cases h
 | .skip,_,_,h | .region ..,_,_,h | .cond ..,_,_,h | .block ..,_,_,h | .loop _,_,_,h | .rangeFunc ..,_,_,h | .exit _,_,_,h | .scope _,_,_,h | .label _,_,_,h | .goto _,_,_,h | .ret,_,_,h | .refuse _,_,_,h=>by cases h
theorem wp_scope_ghost {P:Program}{Q:Exit->Act->World->Prop}{a:Act}{w:World}{c r:Code}(l:Nat)(I:Nat->Act->World->Prop)(n:findLabel c l=some (.seq .skip r))(first:c.wp P (Exit.jump l (fun a w=>∃m,I m a w) Q) a w)
  (f:∀m a w,I m a w->r.wp P (Exit.jump l (fun j g=>∃b,b < m/\I b j g) Q) a w):(Code.scope c).wp P Q a w:=by
 refine wp_scope_jumps l (fun a w=>∃m,I m a w) (fun a w=>leastOf (fun m=>I m a w)) n first fun a w o=> ?_
 refine wp_seq (wp_skip (wp_mono (f _ a w (leastOf_spec o).1) fun e j g h=> ?_));cases e with
 | goto p=>
  obtain⟨k,b,i,d⟩:=h;exact⟨k,⟨b,d⟩,Qcq ((leastOf_spec ⟨b,d⟩).2 b d) i⟩
 | _=>exact h
theorem jump_ex {l:Nat}{J:Act->World->Prop}{Q:Exit->Act->World->Prop}{i:Nat}{a:Act}{w:World}(b:Nat.blt i 1000000=true)(h:Q (exOf (.exit i)) a w):Exit.jump l J Q (exOf (.exit i)) a w:=by
 rw[ex_small b]at h⊢;exact h
section
variable {D:Type}{P:Program}{S:Sh D}{T:TypeId->Option Ty}{Γ:FuncId->Option (Ct D)}{N:Nat->Prop}{w w':World}{w0:Bs}{g0:Nat->Option Value}{n:Nat}
theorem evP_sound {J:Nat->Option (Shp D)}(V:∀i U,J i=some U->ShpOk S U)(C:P.follows .mixedOrders=true)(B:∀t ty,T t=some ty->TyOk P t ty)(E:∀f Y,Γ f=some Y->CtOk P S f Y)(W:ShOk S){R:Type}{K:Ex->St D->Tr D R}{L:St D->Tr D R}{v A:R}{Q:Exit->Act->World->Prop}:
  ∀(c:Code) (l:Nat) (r:Code) (s:St D) (a:Act) (w:World),restOf c=some (l,r)->drawsOk c=true->(evP T S Γ n J c R s K L).run v=some A->HoldsSt S w0 g0 N n s a w->
   (∀e d j m,HoldsSt S w0 g0 N n d j m->(∃u,d.blks=u++s.blks)->(∀t,t∉writes c->d.slot t=s.slot t)->(K e d).run v=some A->Q (exOf e) j m)->
   (∀d j m,HoldsSt S w0 g0 N n d j m->(∃u,d.blks=u++s.blks)->(∀t,t∉writes c->d.slot t=s.slot t)->(L d).run v=some A->r.wp P Q j m)->c.wp P Q a w
 | .seq x y,l,r,s,a,w,b,G,z,h,hQ,X=>by
  simp only[drawsOk,iZ]at G;unfold restOf at b;unfold evP at z;split at b
  ·injection b with b
   injection b with o p
   subst o p;exact wp_seq (wp_label (X s a w h ⟨[],rfl⟩ (fun _ _=>rfl) z))
  ·rename_i hx;split at b
   ·rename_i l' r' hr';split at b
    ·injection b with b
     injection b with o p
     subst o p;split at z
     ·grind
     refine wp_seq (ev_sound V C B E W x R s _ v A _ a w G.1 z h fun e d j m Z o p hk=> ?_);have q:∀{t:Nat},t∉writes (.seq x y)->t∉writes x/\t∉writes y:=fun{t} g=>by
      simp only[writes,vO,not_or]at g;exact g
     cases e with
     | normal=>
      exact evP_sound V C B E W y _ _ d j m hr' G.2 hk Z (fun e H a2 I k O M F=>hQ e H a2 I k (pre_trans o O) (fun t g=>(M t (q g).2).trans (p t (q g).1)) F)
       fun H a2 I k O M F=>X H a2 I k (pre_trans o O) (fun t g=>(M t (q g).2).trans (p t (q g).1)) F
     | exit i=>grind [then_ex]
     | ret=>exact hQ .ret d j m Z o (fun t g=>p t (q g).1) hk
    ·cases b
   ·cases b
 | .skip,_,_,_,_,_,h,_,_,_,_,_ | .region ..,_,_,_,_,_,h,_,_,_,_,_ | .cond ..,_,_,_,_,_,h,_,_,_,_,_ | .block ..,_,_,_,_,_,h,_,_,_,_,_ | .loop _,_,_,_,_,_,h,_,_,_,_,_ | .rangeFunc ..,_,_,_,_,_,h,_,_,_,_,_
 | .exit _,_,_,_,_,_,h,_,_,_,_,_ | .scope _,_,_,_,_,_,h,_,_,_,_,_ | .label _,_,_,_,_,_,h,_,_,_,_,_ | .goto _,_,_,_,_,_,h,_,_,_,_,_ | .ret,_,_,_,_,_,h,_,_,_,_,_ | .refuse _,_,_,_,_,_,h,_,_,_,_,_=>by cases h
theorem evT_sound {J:Nat->Option (Shp D)}(hJ:∀i k,J i=some k->ShpOk S k)(O:P.follows .mixedOrders=true)(F:∀t ty,T t=some ty->TyOk P t ty)(H:∀f ct,Γ f=some ct->CtOk P S f ct)(U:ShOk S)
  (c:Code) (R:Type) (s:St D) (K:Ex->St D->Tr D R) (X Y:R) (Q:Exit->Act->World->Prop) (a:Act) (w:World) (hd:drawsOk c=true) (V:(evT T S Γ n J c R s K).run X=some Y) (h:HoldsSt S w0 g0 N n s a w)
   (hQ:∀e g o p,HoldsSt S w0 g0 N n g o p->(∃u,g.blks=u++s.blks)->(∀t,t∉writes c->g.slot t=s.slot t)->(K e g).run X=some Y->Q (exOf e) o p):c.wp P Q a w:=by
 unfold evT at V;split at V
 ·rename_i x c';split at V
  ·rename_i b;split at V
   ·rename_i l r z;split at V
    ·rename_i k hsh;have hok:=hJ _ k hsh;have A:=hd;simp only[drawsOk,iZ]at A;obtain⟨hrw,hrd⟩:=restOf_writes z;refine wp_seq (ev_sound hJ O F H U x R s _ X Y _ a w A.1 V h fun e Z a1 w1 W p1 f1 hk=> ?_);have hw:∀{t:Nat},t∉writes (.seq x (.scope b))->t∉writes x/\t∉writes b:=fun{t} v=>by
      simp only[writes,vO,not_or]at v;exact v
     have G:∀(J':Act->World->Prop) (e:Ex) (g:St D) (o:Act) (p:World),HoldsSt S w0 g0 N n g o p->(∃u,g.blks=u++Z.blks)->(∀t,t∉writes b->g.slot t=Z.slot t)->(scopeK (.halt 9) K e g).run X=some Y->Exit.jump l J' Q (exOf e) o p:=by
      intro J' e g o p B p' f' d;have f'':∀t,t∉writes (.seq x (.scope b))->g.slot t=s.slot t:=fun t v=>(f' t (hw v).2).trans (f1 t (hw v).1)
      cases e with
      | normal=>exact hQ .normal g o p B (pre_trans p1 p') f'' d
      | exit i=>
       simp only[scopeK]at d;split at d
       ·rename_i hi;exact jump_ex hi (hQ (.exit i) g o p B (pre_trans p1 p') f'' d)
       ·cases d
      | ret=>exact hQ .ret g o p B (pre_trans p1 p') f'' d
     cases e with
     | exit i=>grind [then_ex]
     | ret=>exact hQ .ret Z a1 w1 W p1 (fun t v=>f1 t (hw v).1) hk
     | normal=>
      let stepF:=fun(j:St D) (x:k.X)=>(evC T S Γ n J r (k.X⊕R) (headSt (k.its j.slot) (writes r) j (k.enc x)) (jumpK k l (writes r) j (scopeK (.halt 9) K))).run (.inr X)
      let I:=fun(m:Nat) (a:Act) (w:World)=>∃(j:St D) (x:k.X),loopM (stepF j) m x=some Y/\HoldsSt S w0 g0 N n (headSt (k.its j.slot) (writes r) j (k.enc x)) a w/\(∃u,j.blks=u++Z.blks)/\(∀t,t∉writes b->j.slot t=Z.slot t)/\Tidy g0 j/\slotsIn (writes r) (k.its j.slot)=true
      have aa:∀m a w,I m a w->r.wp P (Exit.jump l (fun o p=>∃E,E < m/\I E o p) Q) a w:=by
       rintro m a w ⟨j,x,C,hh,p2,f2,v,hsl⟩;cases m with
       | zero=>simp[loopM]at C
       | succ m=>
        have back:∀g:St D,(∃u,g.blks=u++(headSt (k.its j.slot) (writes r) j (k.enc x)).blks)->∃u,g.blks=u++j.blks:=fun g W=>pre_trans head_pre W
        have M:∀g:St D,(∀t,t∉writes r->g.slot t=(headSt (k.its j.slot) (writes r) j (k.enc x)).slot t)->∀t,t∉writes r->g.slot t=j.slot t:=fun g h2 t v=>(h2 t v).trans (head_slot hsl v)
        have outs:∀(e:Ex) (g:St D) (o:Act) (p:World),HoldsSt S w0 g0 N n g o p->(∃u,g.blks=u++(headSt (k.its j.slot) (writes r) j (k.enc x)).blks)->(∀t,t∉writes r->g.slot t=(headSt (k.its j.slot) (writes r) j (k.enc x)).slot t)->
          (scopeK (.halt 9) K e g).run X=some Y->Exit.jump l (fun o p=>∃E,E < m+1/\I E o p) Q (exOf e) o p:=
         fun e g o p B k1 k2 d=>G _ e g o p B (pre_trans p2 (back g k1)) (fun t v=>(M g k2 t fun hm=>v (hrw t hm)).trans (f2 t v)) d
        unfold loopM at C;split at C
        ·cases C
        ·rename_i x' y;refine ev_sound hJ O F H U r _ _ _ _ _ _ a w (hrd A.2) y hh fun e g o p B k1 k2 d=> ?_;cases e with
         | normal=>
          obtain⟨r,q,_⟩:=Tr.run_map _ _ _ inr_inj _ _ d;cases q
         | ret=>
          obtain⟨r,q,_⟩:=Tr.run_map _ _ _ inr_inj _ _ d;cases q
         | exit i=>
          simp only[jumpK]at d;split at d
          ·rename_i hi;have hi:=Qa hi;subst hi;split at d
           ·rename_i x1 hx1;injection d with d
            injection d with d
            subst d;obtain⟨cs,q1,q2⟩:=decX_spec hok hx1;rw[ex_goto];exact⟨rfl,m,by omega,j,_,C,head_ok U v B (back g k1) (M g k2) q1 q2,p2,f2,v,hsl⟩
           ·cases d
          ·obtain⟨r,q,_⟩:=Tr.run_map _ _ _ inr_inj _ _ d;cases q
        ·rename_i r1 y;injection C with C
         subst C;refine ev_sound hJ O F H U r _ _ _ _ _ _ a w (hrd A.2) y hh fun e g o p B k1 k2 d=> ?_;cases e with
         | normal=>
          obtain⟨r,q,hr⟩:=Tr.run_map _ _ _ inr_inj _ _ d
          grind
         | ret=>
          obtain⟨r,q,hr⟩:=Tr.run_map _ _ _ inr_inj _ _ d
          grind
         | exit i=>
          simp only[jumpK]at d;split at d
          ·split at d
           ·injection d with d;cases d
           ·cases d
          ·obtain⟨r,q,hr⟩:=Tr.run_map _ _ _ inr_inj _ _ d
           grind
      refine wp_scope_ghost l I (restOf_find z) ?_ aa;refine evP_sound hJ O F H U b l r Z a1 w1 z A.2 hk W (G _) fun j a2 w2 h2 p2 f2 L=> ?_;unfold evL at L;split at L
      ·cases L
      rename_i x0 hx0;obtain⟨cs0,q1,q2⟩:=decX_spec hok hx0;obtain⟨m0,hm0⟩:=loopU_spec L;have hI:I m0 a2 w2:=⟨j,x0,hm0,head_ok U (tidy_of h2) h2 ⟨[],rfl⟩ (fun _ _=>rfl) q1 q2,p2,f2,tidy_of h2,absSt_slots q1⟩;refine wp_mono (aa m0 a2 w2 hI) fun e o p hq=> ?_;cases e with
      | goto l'=>
       obtain⟨W,E,_,hI'⟩:=hq;exact⟨W,E,hI'⟩
      | _=>exact hq
    grind [ev_sound]
   grind [ev_sound]
  grind [ev_sound]
 grind [ev_sound]
end
end Go.Vc

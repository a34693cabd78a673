/- Own engine: Vea, Veb, Vec, Veg, Veh, Vej. -/
import Derived.Test.YtgdmjfkdbfafjaaGreatDoorEng13
import Derived.Lib.Bytealg
set_option linter.unusedVariables false
set_option linter.unusedSimpArgs false
namespace Go.Vc
open Go.RowKit
mutual
inductive U where
 | mk (sz:Nat) (rows:List (List UC))
 | map (ag:Bool) (kd:Nat) (z:List Pv) (kvs:List (Pv×List Pv))
inductive UC where
 | bool (b:Bool)
 | int (k:IntKind) (n:Int)
 | str (s:List UInt8)
 | dat (u:U)
 | Ze (v:Option nY)
end
def U.size:U->Nat
 | .mk a _=>a
 | .map _ _ _ _=>0
def U.rows:U->List (List UC)
 | .mk _ r=>r
 | .map _ _ _ _=>[]
def U.CP:U->Option (Mp U)
 | .mk _ _=>none
 | .map c b z a=>if a.all (fun p=>Nat.beq p.1.kind b)then some ⟨b,c,z,a,fun k=>(Am k a).isSome,fun k=>((Am k a).getD z).map Pv.lf,fun k d=> .map c b z (XH k d a),a.length⟩else none
def UC.lf:UC->Lf U
 | .bool b=> .bool b
 | .int k n=> .int k n
 | .str s=> .str s
 | .dat u=> .dat u
 | .Ze v=> .Ze v
theorem UC.data (c:UC):c.lf.kF=true:=by cases c<;>rfl
section
variable {ks:TypeId->Option (List Nat)}{gl:Nat->Option U}{mk:TypeId->Option (Bool×Nat×List Pv)}
end
end Go.Vc
namespace Go.Vc
open Go.RowKit
end Go.Vc
namespace Go.Vc
open Go.RowKit
section
variable {D:Type}{P:Program}{S:Sh D}
def E5 (g:List (Sl D)->Option (Sl D)):Ct D:=fun args a=>
 match a,g args with
 | [],some r=>some (none,r,[],[])
 | _,_=>none
theorem amb:yE (D:=D) [] [] []=mQ []:=by
 rfl
theorem aa1 {f:FuncId}{g:List (Sl D)->Option (Sl D)}(j:∀(args:Array Value) (w:World),(callFunc f args).run P w= .ok (.enter f args) w)
  (h:∀(M:Nat->Prop) (w:World) (c:Nat->Option Value) (args:List (Sl D)) (b:List Value) (r:Sl D),g args=some r->iY S M w c args b->∃v,(Calls P f b.toArray w fun e i=>e= .returned v/\i=w)/\r.Rel S M w c v):gZ P S f (E5 g):=by
 refine⟨j,fun X N c w args y z p r q B n d a u=> ?_⟩;unfold E5 at a;split at a
 ·rename_i x t;injection a with a
  injection a with A a
  injection a with l a
  injection a with o k
  subst l o k;obtain⟨v,s,m⟩:=h _ _ _ _ _ _ t d;refine s.mono ?_;rintro e i ⟨rfl,rfl⟩;refine⟨v,c,rfl,fun _ _ h=>h,?_,?_⟩
  ·rw[amb];exact n.weaken fun _ _=>trivial
  ·rw[amb];exact m
 ·cases a
def Tu (b:TypeId):Ct D:=fun args c=>
 match args,c with
 | [.one (.lf (.ptr 0 0))], .tc t [a]::r=>if Nat.beq t b then some (none, .x8 [],[(0, .tc t [a])],(List.range (r.length+1)).filter fun i=> !Nat.beq i 0)else none
 | _,_=>none
theorem XR {d a:Bk D}{r:List (Bk D)}:yE [(0,a)] ((List.range (r.length+1)).filter fun i=> !Nat.beq i 0) (d::r)=upd (mQ (d::r)) 0 (some a):=by
 funext i;simp only[yE,lW,mQ];by_cases c:i=0
 ·subst c;simp[upd_same]
 ·have f:¬(Nat.beq 0 i=true):=fun e=>c (Qa e).symm
  rw[yc f,df _ _ _ _ c];dsimp only;by_cases b:i < r.length+1
  ·have g:(!Nat.beq i 0)=true:=by
    cases e:Nat.beq i 0 with
    | true=>simp_all
    | false=>rfl
   rw[yY (iL.2 (Qbj.2 ⟨Qca.2 b,g⟩))];rfl
  ·rw[yc (fun h=>b (Qca.1 (Qbj.1 (iL.1 h)).1))];exact(List.getElem?_eq_none (by simpa using b)).symm
theorem aiM {f:FuncId}{D:TypeId}(B:∀(args:Array Value) (w:World),(callFunc f args).run P w= .ok (.enter f args) w)
  (J:∀(b:Nat) (w:World),w.cell? ⟨b,0,none⟩=some (.pointer (some ⟨b,0,none⟩))->Calls P f #[.pointer (some ⟨b,0,none⟩)] w fun e w'=>e= .returned (.tuple #[])/\w'=w)
  (H:∀(b:Nat) (w:World),w.cell? ⟨b,0,none⟩=some (.pointer none)->w.shape? b=some (D,2)->w.frozen? ⟨b,0,none⟩=false->Calls P f #[.pointer (some ⟨b,0,none⟩)] w fun e w'=>e= .returned (.tuple #[])/\w'=w.setCell ⟨b,0,none⟩ (.pointer (some ⟨b,0,none⟩))):
  gZ P S f (Tu D):=by
 refine⟨B,fun X N z w args R U p r K Y q d c M=> ?_⟩;unfold Tu at c;split at c
 ·rename_i t s V;obtain⟨v,E,b,L,rfl,y,⟨u0,g,A⟩,k⟩:=q.dW 0 (.tc t [s]) rfl;have j:args=[.pointer (some ⟨b,0,none⟩)]:=by
   match args,d with
   | [a],d=>
    obtain⟨Z,O,Q⟩:=d.1
    grind
  subst j;match L,k,g with
  | [C],k,g=>
  have m:w.cell? ⟨b,0,none⟩=some u0:=by rw[cell_of g];rfl
  split at c
  ·rename_i i;have i:=Qa i;subst i;injection c with c
   injection c with W c
   injection c with G c
   injection c with I F
   subst G I F;rcases A with rfl | rfl
   ·refine(H b w m (by simp[World.shape?,g]) (by simp[World.frozen?,g])).mono ?_;rintro e w' ⟨rfl,rfl⟩;refine⟨_,z,rfl,fun _ _ h=>h,?_,[],rfl,trivial⟩;rw[XR];have x:∀n,n≠b->(w.setCell ⟨b,0,none⟩ (.pointer (some ⟨b,0,none⟩))).heap[n]? =w.heap[n]? :=fun n T=>by
     simp only[World.setCell]
     grind
    obtain⟨u,_⟩:=q.write (w':=w.setCell ⟨b,0,none⟩ (.pointer (some ⟨b,0,none⟩))) (bk':= .tc t [s]) (l:=0) (b:=b) rfl rfl rfl E rfl rfl rfl rfl (by simp_all) x
     (fun o=>⟨b,[C],rfl,y,⟨.pointer (some ⟨b,0,none⟩),by simp[World.setCell,Qds,g], .inr rfl⟩,k.1.keep o (More.refl _),trivial⟩)
    exact u.weaken fun _ _=>trivial
   ·refine(J b w m).mono ?_;rintro e w' ⟨rfl,rfl⟩;refine⟨_,z,rfl,fun _ _ h=>h,?_,[],rfl,trivial⟩;rw[XR];obtain⟨u,_⟩:=q.write (w':=w') (bk':= .tc t [s]) (l:=0) (b:=b) rfl rfl rfl E rfl rfl rfl rfl rfl (fun _ _=>rfl)
     (fun o=>⟨b,[C],rfl,y,⟨_,g, .inr rfl⟩,k.1.keep o (More.refl _),trivial⟩)
    exact u.weaken fun _ _=>trivial
  ·cases c
 ·cases c
end
section
variable {D:Type}{P:Program}{S:Sh D}
end
end Go.Vc
namespace Go.Vc
open Go.RowKit
def afM:List UInt8->List UInt8->Bool
 | [],[]=>true
 | a::r,b::c=>Nat.beq a.toNat b.toNat && afM r c
 | _,_=>false
theorem VW:∀{a b:List UInt8},afM a b=true->a=b
 | [],[],_=>rfl
 | a::r,b::c,h=>by
  simp only[afM,kW]at h;rw[Qc6.1 (Qa h.1),VW h.2]
 | [],_::_,h=>by cases h
 | _::_,[],h=>by cases h
def ikN:IntKind->Nat
 | .i8=>0 | .i16=>1 | .i32=>2 | .i64=>3 | .u8=>4 | .u16=>5 | .u32=>6 | .u64=>7
theorem avR {a b:IntKind}(h:Nat.beq (ikN a) (ikN b)=true):a=b:=by
 cases a<;>cases b<;>first | rfl | cases h
def atV:Int->Int->Bool
 | .ofNat a, .ofNat b=>Nat.beq a b
 | .negSucc a, .negSucc b=>Nat.beq a b
 | _,_=>false
theorem afz {a b:Int}(h:atV a b=true):a=b:=by
 cases a<;>cases b<;>first | cases h | rw[Qa h]
def YS:Bool->Bool->Bool
 | true,true=>true
 | false,false=>true
 | _,_=>false
theorem Ii {a b:Bool}(h:YS a b=true):a=b:=by cases a<;>cases b<;>first | rfl | cases h
def arw:Pv->Pv->Bool
 | .bool a, .bool b=>YS a b
 | .int k n, .int d c=>Nat.beq (ikN k) (ikN d) && atV n c
 | .str s, .str e=>afM s e
 | _,_=>false
theorem TE {a b:Pv}(h:arw a b=true):a=b:=by
 cases a<;>cases b<;>first | cases h | skip
 ·rw[Ii h]
 ·simp only[arw,kW]at h;rw[avR h.1,afz h.2]
 ·rw[VW h]
def VO {A:Type}(f:A->A->Bool):List A->List A->Bool
 | [],[]=>true
 | a::r,b::c=>f a b && VO f r c
 | _,_=>false
theorem FK {A:Type}{f:A->A->Bool}(c:∀{a b},f a b=true->a=b):∀{a b:List A},VO f a b=true->a=b
 | [],[],_=>rfl
 | a::r,b::d,h=>by
  simp only[VO,kW]at h;rw[c h.1,FK c h.2]
 | [],_::_,h=>by cases h
 | _::_,[],h=>by cases h
def atK:Option nY->Option nY->Bool
 | none,none=>true
 | some ⟨t,g,c⟩,some ⟨b,g',a⟩=>Nat.beq t b && (YS g g' && VO arw c a)
 | _,_=>false
theorem aux {a b:Option nY}(h:atK a b=true):a=b:=by
 cases a with
 | none=>cases b with
  | none=>rfl
  | some y=>cases h
 | some x=>
  cases b with
  | none=>cases h
  | some y=>
   cases x;cases y;simp only[atK,kW]at h;rw[Qa h.1,Ii h.2.1,FK TE h.2.2]
def aEC:List (Pv×List Pv)->List (Pv×List Pv)->Bool:=VO fun p q=>arw p.1 q.1 && VO arw p.2 q.2
theorem ayG {a b:List (Pv×List Pv)}(h:aEC a b=true):a=b:=FK (fun{p q} h=>by
 simp only[kW]at h;exact Prod.ext (TE h.1) (FK TE h.2)) h
mutual
def uBq:U->U->Bool
 | .mk s r, .mk c d=>Nat.beq s c && OT r d
 | .map a k z l, .map g e b f=>YS a g && (Nat.beq k e && (VO arw z b && aEC l f))
 | _,_=>false
 termination_by structural a=>a
def OT:List (List UC)->List (List UC)->Bool
 | [],[]=>true
 | a::r,b::c=>Gj a b && OT r c
 | _,_=>false
 termination_by structural a=>a
def Gj:List UC->List UC->Bool
 | [],[]=>true
 | a::r,b::c=>akj a b && Gj r c
 | _,_=>false
 termination_by structural a=>a
def akj:UC->UC->Bool
 | .bool a, .bool b=>YS a b
 | .int k n, .int e d=>Nat.beq (ikN k) (ikN e) && atV n d
 | .str s, .str f=>afM s f
 | .dat u, .dat c=>uBq u c
 | .Ze v, .Ze g=>atK v g
 | _,_=>false
 termination_by structural a=>a
end
mutual
theorem aGX:∀{a b:U},uBq a b=true->a=b
 | .mk s r, .mk d e,h=>by
  simp only[uBq,kW]at h;rw[Qa h.1,aaX h.2]
 | .map a k z l, .map i f c g,h=>by
  simp only[uBq,kW]at h;rw[Ii h.1,Qa h.2.1,FK TE h.2.2.1,ayG h.2.2.2]
 | .mk _ _, .map _ _ _ _,h=>by simp[uBq]at h
 | .map _ _ _ _, .mk _ _,h=>by simp[uBq]at h
theorem aaX:∀{a b:List (List UC)},OT a b=true->a=b
 | [],[],_=>rfl
 | a::r,b::c,h=>by
  simp only[OT,kW]at h;rw[XI h.1,aaX h.2]
 | [],_::_,h=>by simp[OT]at h
 | _::_,[],h=>by simp[OT]at h
theorem XI:∀{a b:List UC},Gj a b=true->a=b
 | [],[],_=>rfl
 | a::r,b::c,h=>by
  simp only[Gj,kW]at h;rw[aAM h.1,XI h.2]
 | [],_::_,h=>by simp[Gj]at h
 | _::_,[],h=>by simp[Gj]at h
theorem aAM:∀{a b:UC},akj a b=true->a=b
 | .bool a,b,h=>by
  cases b<;>simp only[akj]at h<;>first | rw[Ii h] | cases h
 | .int k n,b,h=>by
  cases b<;>simp only[akj,kW]at h<;>first | rw[avR h.1,afz h.2] | cases h
 | .str s,b,h=>by
  cases b<;>simp only[akj]at h<;>first | rw[VW h] | cases h
 | .dat u,b,h=>by
  cases b<;>simp only[akj]at h<;>first | rw[aGX h] | cases h
 | .Ze v,b,h=>by
  cases b<;>simp only[akj]at h<;>first | rw[aux h] | cases h
end
section
variable {P:Program}{S:Sh U}
end
section
variable {D:Type}{P:Program}{S:Sh D}
end
def Dt {D:Type}(args:List (Sl D)):Option (Sl D):=match args with
 | [.one (.lf (.str s)), .one (.lf (.int .u8 c))]=>some (.one (.lf (.int .i64 (Lib.indexByte s c.toNat.toUInt8))))
 | _=>none
def ad_ {D:Type}(args:List (Sl D)):Option (Sl D):=match args with
 | [.one (.lf (.str s)), .one (.lf (.str [c]))]=>some (.one (.lf (.int .i64 (Lib.countByte s c))))
 | _=>none
end Go.Vc
namespace Go.Vc
open Go.RowKit
section
variable {D:Type}{P:Program}{S:Sh D}
theorem enters_of {f:FuncId}{a:Func}(d:P.funcs[f]? =some a)(e:a.body.isSome=true)(b:(a.name== "runtime.NumGoroutine")=false)(args:Array Value)(w:World):(callFunc f args).run P w= .ok (.enter f args) w:=by
 obtain⟨c,g⟩:=Qbt.1 e;have b:¬a.name= "runtime.NumGoroutine" :=by simpa using b
 simp[callFunc,d,b,g]
theorem Xk {f:FuncId}(g:∀(args:Array Value) (w:World),(callFunc f args).run P w= .ok (.enter f args) w)
  (h:∀(s:ByteArray) (c:Int) (w:World),Calls P f #[.string s, .int .u8 c] w fun e i=>e= .returned (.int .i64 (Lib.indexByte s.data.toList c.toNat.toUInt8))/\i=w):gZ P S f (E5 Dt):=by
 refine aa1 g fun M w m args d r b a=> ?_;unfold Dt at b;split at b
 ·rename_i s c;injection b with b
  subst b;match d,a with
  | [n,l],a=>
   obtain⟨⟨j,_⟩,k,_⟩:=a;rw[j,show l= .int .u8 c from k];exact⟨_,h _ _ _,rfl⟩
 ·cases b
theorem akA {f:FuncId}(g:∀(args:Array Value) (w:World),(callFunc f args).run P w= .ok (.enter f args) w)
  (h:∀(s:ByteArray) (c:UInt8) (w:World),Calls P f #[.string s, .string ⟨#[c]⟩] w fun e i=>e= .returned (.int .i64 (Lib.countByte s.data.toList c))/\i=w):gZ P S f (E5 ad_):=by
 refine aa1 g fun M w l args d r b a=> ?_;unfold ad_ at b;split at b
 ·rename_i s c;injection b with b
  subst b;match d,a with
  | [m,n],a=>
   obtain⟨⟨j,_⟩,⟨k,_⟩,_⟩:=a;rw[j,k];exact⟨_,h _ _ _,rfl⟩
 ·cases b
end
end Go.Vc
namespace Go.Vc
open Go.RowKit
section
variable {D:Type}
def Tr.line:{R:Type}->Tr D R->Option (Prop×R)
 | _, .ret r=>some (True,r)
 | _, .ob p k=>(match k.line with
  | some (q,r)=>some (p.p/\q,r)
  | none=>none)
 | _, .as _ k=>k.line
 | _, .br b t e=>cond b t.line e.line
 | _, .stuck _=>none
 | _, .halt _ _=>none
 | _, .unk _ _ _=>none
 | _, .loop _ _ _=>none
 | _, .cut _ _ _=>none
theorem Tr.Gh:∀{R:Type} (t:Tr D R) (q:Prop) (r:R),t.line=some (q,r)->q->t.run r=some r
 | _, .ret r,q,a,h,_=>by injection h with h;injection h with _ h;subst h;rfl
 | _, .ob p k,q,a,h,c=>by
  simp only[Tr.line]at h;split at h
  ·rename_i j d g;injection h with h
   injection h with i l
   subst i l;simp only[Tr.run];rw[Bc c.1];exact Tr.Gh k j d g c.2
  ·cases h
 | _, .as p k,q,a,h,c=>by
  have:=Tr.Gh k q a h c;simp only[Tr.run];by_cases f:p
  ·rw[zB f];exact this
  ·rw[DJ f]
 | _, .br b t e,q,a,h,c=>by
  cases b with
  | true=>exact Tr.Gh t q a h c
  | false=>exact Tr.Gh e q a h c
 | _, .stuck _,q,a,h,_=>by cases h
 | _, .halt _ _,q,a,h,_=>by cases h
 | _, .unk _ _ _,q,a,h,_=>by cases h
 | _, .loop _ _ _,q,a,h,_=>by cases h
 | _, .cut _ _ _,q,a,h,_=>by cases h
def ctI (T:TypeId->Option Ty)(S:Sh D)(e:FuncId->Option (Ct D))(a:Func):Ct D:=fun args d=>
 if Nat.ble args.length a.ntmps then
  (match(Vp T S e a.ntmps (fun _=>none) (IC a) (as6 D) (St.init args d) (aEL T S a.results.toList d.length)).line with
  | none=>none
  | some (q,r,c,b)=>some (some (dq q),r,c,b))else none
end
section
variable {D:Type}{P:Program}{S:Sh D}{T:TypeId->Option Ty}{Γ:FuncId->Option (Ct D)}{N:Nat->Prop}{w w':World}{w0:Bs}{g0:Nat->Option Value}{n:Nat}{al:Nat->Prop}{g:Nat->Option Value}{blk:Nat->Option (Bk D)}{ids:List Nat}
theorem aIn {f:FuncId}{n:Func}(hmx:P.follows .mixedOrders=true)(F:∀t ty,T t=some ty->gW P t ty)(V:∀f R,Γ f=some R->gZ P S f R)(hS:jE S)(U:P.funcs[f]? =some n)(Q:zg n=true):gZ P S f (ctI T S Γ n):=by
 simp only[zg,kW,Qdd,ne_eq]at Q;obtain⟨h1,h2,L⟩:=Q;obtain⟨c,A⟩:=Qbt.1 h1;have O:IC n=c:=by simp[IC,A]
 refine⟨fun args w=>by simp[callFunc,U,h2,A],fun X N g w args o_ o p r post kp K H a M=> ?_⟩;unfold ctI at a;split at a
 ·rename_i z;have z:=Qa3 z;split at a
  ·cases a
  rename_i q I k j m;injection a with a
  injection a with q1 a
  injection a with q2 a
  injection a with q3 q4
  subst q1 q2 q3 q4;have m:=Tr.Gh _ _ _ m M;rw[O]at m L;have Z:∀l v,g l=some v->l < o.length:=K.al;have W:∀(l:Nat) (C:Bk D),o[l]? =some C->∀r∈C.refs,r < o.length:=fun l C A r x=>by
   obtain⟨v,hv,G⟩:=K.dW l C A;cases C with
   | cells cs=>
    obtain⟨b,vs,t,_,_,_,B⟩:=G;obtain⟨u,hu⟩:=bu.jq B r x
    grind
   | row e d=>simp[Bk.refs]at x
   | xZ d=>simp[Bk.refs]at x
   | iter s p=>simp[Bk.refs]at x
   | map kvs=>simp[Bk.refs]at x
   | tc t cs=>
    obtain⟨b,vs,_,_,_,B⟩:=G;obtain⟨u,hu⟩:=bu.jq B r x
    grind
  refine calls_of_wp U A (XP (J:=fun _=>none) (fun _ _ h=>by cases h) hmx F V hS (w0:=⟨w,X⟩) (N:=N) c _ _ _ _ _ _ _ w L m (JW K H z) fun e s' Y w' h' hpb _ y=> ?_);have E:(apT T S n.results.toList o.length s').run (I,k,j)=some (I,k,j)->Y.defers=[]/\∃v,(results n Y.tmps).run P w'= .ok v w'/\∃v' g',Ending.returned v= .returned v'/\More g g'/\Hp S ⟨w,X⟩ N (yE k j o) g' (fun _=>True) w'/\
    I.Rel S (bi N (yE k j o) g') w' g' v':=by
   intro y;obtain⟨h1,v,h2,g',L,h4,h5⟩:=Yv F Z W hpb h' y
   grind
  cases e with
  | normal=>exact E y
  | ret=>exact E y
  | exit i=>cases y
 ·cases a
def aMe (Z:Seat D)(l:List (aZ Z))(f:FuncId){a:Func}(b:Z.P.funcs[f]? =some a)(c:zg a=true):aZ Z:=
 ⟨f,ctI Z.T Z.S (Et l) a,aIn Z.mx Z.hT (fun _ _ h=>Gz h) Z.hS b c⟩
end
section
variable {D:Type}
def Tr.road:List Bool->{R:Type}->Tr D R->Option (Prop×R)
 | _,_, .ret r=>some (True,r)
 | cs,_, .ob p k=>(match k.road cs with
  | some (q,r)=>some (p.p/\q,r)
  | none=>none)
 | cs,_, .as _ k=>k.road cs
 | c::cs,_, .br b t e=>(match c with
  | true=>(match t.road cs with
   | some (q,r)=>some (b=true/\q,r)
   | none=>none)
  | false=>(match e.road cs with
   | some (q,r)=>some (b=false/\q,r)
   | none=>none))
 | [],_, .br _ _ _=>none
 | _,_, .stuck _=>none
 | _,_, .halt _ _=>none
 | _,_, .unk _ _ _=>none
 | _,_, .loop _ _ _=>none
 | _,_, .cut _ _ _=>none
theorem Tr.Gi:∀(cs:List Bool) {R:Type} (t:Tr D R) (q:Prop) (r:R),t.road cs=some (q,r)->q->t.run r=some r
 | cs,_, .ret r,q,a,h,_=>by
  simp only[Tr.road]at h;injection h with h;injection h with _ h;subst h;rfl
 | cs,_, .ob p k,q,a,h,d=>by
  simp only[Tr.road]at h;split at h
  ·rename_i l f g;injection h with h
   injection h with i j
   subst i j;simp only[Tr.run];rw[Bc d.1];exact Tr.Gi cs k l f g d.2
  ·cases h
 | cs,_, .as p k,q,a,h,d=>by
  simp only[Tr.road]at h;have:=Tr.Gi cs k q a h d;simp only[Tr.run];by_cases m:p
  ·rw[zB m];exact this
  ·rw[DJ m]
 | c::cs,_, .br b t e,q,a,h,d=>by
  simp only[Tr.road]at h;cases c with
  | true=>
   dsimp only at h;split at h
   ·rename_i l f g;injection h with h
    injection h with i j
    subst i j;simp only[Tr.run,d.1,uu];exact Tr.Gi cs t l f g d.2
   ·cases h
  | false=>
   dsimp only at h;split at h
   ·rename_i l f g;injection h with h
    injection h with i j
    subst i j;simp only[Tr.run,d.1,mX];exact Tr.Gi cs e l f g d.2
   ·cases h
 | [],_, .br _ _ _,q,a,h,_=>by simp[Tr.road]at h
 | cs,_, .stuck _,q,a,h,_=>by simp[Tr.road]at h
 | cs,_, .halt _ _,q,a,h,_=>by simp[Tr.road]at h
 | cs,_, .unk _ _ _,q,a,h,_=>by simp[Tr.road]at h
 | cs,_, .loop _ _ _,q,a,h,_=>by simp[Tr.road]at h
 | cs,_, .cut _ _ _,q,a,h,_=>by simp[Tr.road]at h
def aGW (T:TypeId->Option Ty)(S:Sh D)(e:FuncId->Option (Ct D))(a:Func)(cs:List Bool):Ct D:=fun args d=>
 if Nat.ble args.length a.ntmps then
  (match(Vp T S e a.ntmps (fun _=>none) (IC a) (as6 D) (St.init args d) (aEL T S a.results.toList d.length)).road cs with
  | none=>none
  | some (q,r,c,b)=>some (some (dq q),r,c,b))else none
end
section
variable {D:Type}{P:Program}{S:Sh D}{T:TypeId->Option Ty}{Γ:FuncId->Option (Ct D)}{N:Nat->Prop}{w w':World}{w0:Bs}{g0:Nat->Option Value}{n:Nat}{al:Nat->Prop}{g:Nat->Option Value}{blk:Nat->Option (Bk D)}{ids:List Nat}
theorem aBv {f:FuncId}{n:Func}{cs:List Bool}(hmx:P.follows .mixedOrders=true)(F:∀t ty,T t=some ty->gW P t ty)(V:∀f R,Γ f=some R->gZ P S f R)(hS:jE S)(U:P.funcs[f]? =some n)(Q:zg n=true):gZ P S f (aGW T S Γ n cs):=by
 simp only[zg,kW,Qdd,ne_eq]at Q;obtain⟨h1,h2,L⟩:=Q;obtain⟨c,A⟩:=Qbt.1 h1;have O:IC n=c:=by simp[IC,A]
 refine⟨fun args w=>by simp[callFunc,U,h2,A],fun X N g w args o_ o p r post kp K H a M=> ?_⟩;unfold aGW at a;split at a
 ·rename_i z;have z:=Qa3 z;split at a
  ·cases a
  rename_i q I k j m;injection a with a
  injection a with q1 a
  injection a with q2 a
  injection a with q3 q4
  subst q1 q2 q3 q4;have m:=Tr.Gi cs _ _ _ m M;rw[O]at m L;have Z:∀l v,g l=some v->l < o.length:=K.al;have W:∀(l:Nat) (C:Bk D),o[l]? =some C->∀r∈C.refs,r < o.length:=fun l C A r x=>by
   obtain⟨v,hv,G⟩:=K.dW l C A;cases C with
   | cells cs=>
    obtain⟨b,vs,t,_,_,_,B⟩:=G;obtain⟨u,hu⟩:=bu.jq B r x
    grind
   | row e d=>simp[Bk.refs]at x
   | xZ d=>simp[Bk.refs]at x
   | iter s p=>simp[Bk.refs]at x
   | map kvs=>simp[Bk.refs]at x
   | tc t cs=>
    obtain⟨b,vs,_,_,_,B⟩:=G;obtain⟨u,hu⟩:=bu.jq B r x
    grind
  refine calls_of_wp U A (XP (J:=fun _=>none) (fun _ _ h=>by cases h) hmx F V hS (w0:=⟨w,X⟩) (N:=N) c _ _ _ _ _ _ _ w L m (JW K H z) fun e s' Y w' h' hpb _ y=> ?_);have E:(apT T S n.results.toList o.length s').run (I,k,j)=some (I,k,j)->Y.defers=[]/\∃v,(results n Y.tmps).run P w'= .ok v w'/\∃v' g',Ending.returned v= .returned v'/\More g g'/\Hp S ⟨w,X⟩ N (yE k j o) g' (fun _=>True) w'/\
    I.Rel S (bi N (yE k j o) g') w' g' v':=by
   intro y;obtain⟨h1,v,h2,g',L,h4,h5⟩:=Yv F Z W hpb h' y
   grind
  cases e with
  | normal=>exact E y
  | ret=>exact E y
  | exit i=>cases y
 ·cases a
def Nu (Z:Seat D)(l:List (aZ Z))(f:FuncId){a:Func}(cs:List Bool)(b:Z.P.funcs[f]? =some a)(c:zg a=true):aZ Z:=
 ⟨f,aGW Z.T Z.S (Et l) a cs,aBv Z.mx Z.hT (fun _ _ h=>Gz h) Z.hS b c⟩
theorem JV {f:FuncId}{g:xk D}{j:Iz D}{k:Nat}{e:List Nat}{c:g.A->Bool}{p:g.A->Prop}{f1 f2:g.A->j.X}(v:gZ P S f (qj g j k e (fun a=>some (c a=true/\p a)) f1))
  (E:gZ P S f (qj g j k e (fun a=>some (c a=false/\p a)) f2)):gZ P S f (qj g j k e (fun a=>some (p a)) (fun a=>bif c a then f1 a else f2 a)):=by
 refine⟨v.enters,fun X N o w args n s q r C F u i b d=> ?_⟩;unfold qj at b;split at b
 ·cases b
 rename_i a m;injection b with b
 injection b with A b
 injection b with y b
 injection b with B x
 subst A y B x;have d:p a:=d;have t:∀z,(bif c a then f1 a else f2 a)=z->(fun a=>bif c a then f1 a else f2 a) a=z:=fun z h=>h
 cases l:c a with
 | true=>
  rw[t _ (by rw[l])];exact v.calls X N o w args n s (some (dq (c a=true/\p a))) _ _ _ u i (by unfold qj;rw[m];rfl) ⟨l,d⟩
 | false=>
  rw[t _ (by rw[l])];exact E.calls X N o w args n s (some (dq (c a=false/\p a))) _ _ _ u i (by unfold qj;rw[m];rfl) ⟨l,d⟩
end
end Go.Vc

/- Own engine: Vea, Veb, Vec, Veg, Veh, Vej. -/
import Derived.Test.YtjojefbphdmnjaaGreatDoorEng13
import Derived.Lib.Bytealg
set_option linter.unusedVariables false
set_option linter.unusedSimpArgs false
namespace Go.Vc
open Go.RowKit
mutual
inductive U where
 | mk (sz:Nat) (rows:List (List UC))
 | map (ag:Bool) (kd:Nat) (z:List Pv) (kvs:List (Pv×List Pv))
inductive UC where
 | bool (b:Bool)
 | int (k:IntKind) (n:Int)
 | str (s:List UInt8)
 | dat (u:U)
 | Uo (v:Option xO)
end
def U.size:U->Nat
 | .mk a _=>a
 | .map _ _ _ _=>0
def U.rows:U->List (List UC)
 | .mk _ r=>r
 | .map _ _ _ _=>[]
def U.yK:U->Option (Mp U)
 | .mk _ _=>none
 | .map c b z a=>if a.all (fun p=>Nat.beq p.1.kind b)then some ⟨b,c,z,a,fun k=>(vW k a).isSome,fun k=>((vW k a).getD z).map Pv.lf,fun k d=> .map c b z (TQ k d a),a.length⟩else none
def UC.lf:UC->Lf U
 | .bool b=> .bool b
 | .int k n=> .int k n
 | .str s=> .str s
 | .dat u=> .dat u
 | .Uo v=> .Uo v
theorem UC.data (c:UC):c.lf.iT=true:=by cases c<;>rfl
section
variable {ks:TypeId->Option (List Nat)}{gl:Nat->Option U}{mk:TypeId->Option (Bool×Nat×List Pv)}
end
end Go.Vc
namespace Go.Vc
open Go.RowKit
end Go.Vc
namespace Go.Vc
open Go.RowKit
section
variable {D:Type}{P:Program}{S:Sh D}
def ctPure (g:List (Sl D)->Option (Sl D)):Ct D:=fun args a=>
 match a,g args with
 | [],some r=>some (none,r,[],[])
 | _,_=>none
theorem akj:yC (D:=D) [] [] []=jC []:=by
 rfl
theorem WY {f:FuncId}{g:List (Sl D)->Option (Sl D)}(i:∀(args:Array Value) (w:World),(callFunc f args).run P w= .ok (.enter f args) w)
  (h:∀(M:Nat->Prop) (w:World) (c:Nat->Option Value) (args:List (Sl D)) (b:List Value) (r:Sl D),g args=some r->d_ S M w c args b->∃v,(Calls P f b.toArray w fun e j=>e= .returned v/\j=w)/\r.Rel S M w c v):CtOk P S f (ctPure g):=by
 refine⟨i,fun X N c w args B A p r o z n d a m=> ?_⟩;unfold ctPure at a;split at a
 ·rename_i x t;injection a with a
  injection a with y a
  injection a with s a
  injection a with k u
  subst s k u;obtain⟨v,l,q⟩:=h _ _ _ _ _ _ t d;refine l.mono ?_;rintro e j ⟨rfl,rfl⟩;refine⟨v,c,rfl,fun _ _ h=>h,?_,?_⟩
  ·rw[akj];exact n.weaken fun _ _=>trivial
  ·rw[akj];exact q
 ·cases a
def ctCheck (c:TypeId):Ct D:=fun args a=>
 match args,a with
 | [.one (.lf (.ptr 0 0))], .tc t [b]::r=>if Nat.beq t c then some (none, .tup [],[(0, .tc t [b])],(List.range (r.length+1)).filter fun i=> !Nat.beq i 0)else none
 | _,_=>none
theorem Tv {d a:Bk D}{r:List (Bk D)}:yC [(0,a)] ((List.range (r.length+1)).filter fun i=> !Nat.beq i 0) (d::r)=upd (jC (d::r)) 0 (some a):=by
 funext i;simp only[yC,jD,jC];by_cases c:i=0
 ·subst c;simp[upd_same]
 ·have g:¬(Nat.beq 0 i=true):=fun e=>c (Qa e).symm
  rw[vF g,bI _ _ _ _ c];dsimp only;by_cases b:i < r.length+1
  ·have f:(!Nat.beq i 0)=true:=by
    cases e:Nat.beq i 0 with
    | true=>simp_all
    | false=>rfl
   rw[Ai (fB.2 (Qby.2 ⟨Qcg.2 b,f⟩))];rfl
  ·rw[vF (fun h=>b (Qcg.1 (Qby.1 (fB.1 h)).1))];exact(List.getElem?_eq_none (by simpa using b)).symm
theorem ae4 {f:FuncId}{B:TypeId}(C:∀(args:Array Value) (w:World),(callFunc f args).run P w= .ok (.enter f args) w)
  (M:∀(b:Nat) (w:World),w.cell? ⟨b,0,none⟩=some (.pointer (some ⟨b,0,none⟩))->Calls P f #[.pointer (some ⟨b,0,none⟩)] w fun e w'=>e= .returned (.tuple #[])/\w'=w)
  (I:∀(b:Nat) (w:World),w.cell? ⟨b,0,none⟩=some (.pointer none)->w.shape? b=some (B,2)->w.frozen? ⟨b,0,none⟩=false->Calls P f #[.pointer (some ⟨b,0,none⟩)] w fun e w'=>e= .returned (.tuple #[])/\w'=w.setCell ⟨b,0,none⟩ (.pointer (some ⟨b,0,none⟩))):
  CtOk P S f (ctCheck B):=by
 refine⟨C,fun X N A w args Z W p r H R s g c G=> ?_⟩;unfold ctCheck at c;split at c
 ·rename_i t q U;obtain⟨v,D,b,K,rfl,z,⟨u0,d,y⟩,k⟩:=s.bY 0 (.tc t [q]) rfl;have j:args=[.pointer (some ⟨b,0,none⟩)]:=by
   match args,g with
   | [a],g=>
    obtain⟨T,O,V⟩:=g.1
    grind
  subst j;match K,k,d with
  | [E],k,d=>
  have m:w.cell? ⟨b,0,none⟩=some u0:=by rw[cell_of d];rfl
  split at c
  ·rename_i i;have i:=Qa i;subst i;injection c with c
   injection c with Q c
   injection c with J c
   injection c with F L
   subst J F L;rcases y with rfl | rfl
   ·refine(I b w m (by simp[World.shape?,d]) (by simp[World.frozen?,d])).mono ?_;rintro e w' ⟨rfl,rfl⟩;refine⟨_,A,rfl,fun _ _ h=>h,?_,[],rfl,trivial⟩;rw[Tv];have o:∀n,n≠b->(w.setCell ⟨b,0,none⟩ (.pointer (some ⟨b,0,none⟩))).heap[n]? =w.heap[n]? :=fun n Y=>by
     simp only[World.setCell]
     grind
    obtain⟨u,_⟩:=s.write (w':=w.setCell ⟨b,0,none⟩ (.pointer (some ⟨b,0,none⟩))) (bk':= .tc t [q]) (l:=0) (b:=b) rfl rfl rfl D rfl rfl rfl rfl (by simp_all) o
     (fun x=>⟨b,[E],rfl,z,⟨.pointer (some ⟨b,0,none⟩),by simp[World.setCell,Qdb,d], .inr rfl⟩,k.1.keep x (More.refl _),trivial⟩)
    exact u.weaken fun _ _=>trivial
   ·refine(M b w m).mono ?_;rintro e w' ⟨rfl,rfl⟩;refine⟨_,A,rfl,fun _ _ h=>h,?_,[],rfl,trivial⟩;rw[Tv];obtain⟨u,_⟩:=s.write (w':=w') (bk':= .tc t [q]) (l:=0) (b:=b) rfl rfl rfl D rfl rfl rfl rfl rfl (fun _ _=>rfl)
     (fun x=>⟨b,[E],rfl,z,⟨_,d, .inr rfl⟩,k.1.keep x (More.refl _),trivial⟩)
    exact u.weaken fun _ _=>trivial
  ·cases c
 ·cases c
end
section
variable {D:Type}{P:Program}{S:Sh D}
end
end Go.Vc
namespace Go.Vc
open Go.RowKit
def abw:List UInt8->List UInt8->Bool
 | [],[]=>true
 | a::r,b::c=>Nat.beq a.toNat b.toNat && abw r c
 | _,_=>false
theorem Rl:∀{a b:List UInt8},abw a b=true->a=b
 | [],[],_=>rfl
 | a::r,b::c,h=>by
  simp only[abw,iW]at h;rw[Qc7.1 (Qa h.1),Rl h.2]
 | [],_::_,h=>by cases h
 | _::_,[],h=>by cases h
def ikN:IntKind->Nat
 | .i8=>0 | .i16=>1 | .i32=>2 | .i64=>3 | .u8=>4 | .u16=>5 | .u32=>6 | .u64=>7
theorem arQ {a b:IntKind}(h:Nat.beq (ikN a) (ikN b)=true):a=b:=by
 cases a<;>cases b<;>first | rfl | cases h
def aus:Int->Int->Bool
 | .ofNat a, .ofNat b=>Nat.beq a b
 | .negSucc a, .negSucc b=>Nat.beq a b
 | _,_=>false
theorem abG {a b:Int}(h:aus a b=true):a=b:=by
 cases a<;>cases b<;>first | cases h | rw[Qa h]
def SN:Bool->Bool->Bool
 | true,true=>true
 | false,false=>true
 | _,_=>false
theorem CY {a b:Bool}(h:SN a b=true):a=b:=by cases a<;>cases b<;>first | rfl | cases h
def alS:Pv->Pv->Bool
 | .bool a, .bool b=>SN a b
 | .int k n, .int d c=>Nat.beq (ikN k) (ikN d) && aus n c
 | .str s, .str e=>abw s e
 | _,_=>false
theorem ZK {a b:Pv}(h:alS a b=true):a=b:=by
 cases a<;>cases b<;>first | cases h | skip
 ·rw[CY h]
 ·simp only[alS,iW]at h;rw[arQ h.1,abG h.2]
 ·rw[Rl h]
def SS {A:Type}(f:A->A->Bool):List A->List A->Bool
 | [],[]=>true
 | a::r,b::c=>f a b && SS f r c
 | _,_=>false
theorem AU {A:Type}{f:A->A->Bool}(c:∀{a b},f a b=true->a=b):∀{a b:List A},SS f a b=true->a=b
 | [],[],_=>rfl
 | a::r,b::d,h=>by
  simp only[SS,iW]at h;rw[c h.1,AU c h.2]
 | [],_::_,h=>by cases h
 | _::_,[],h=>by cases h
def aui:Option xO->Option xO->Bool
 | none,none=>true
 | some ⟨t,g,c⟩,some ⟨b,g',a⟩=>Nat.beq t b && (SN g g' && SS alS c a)
 | _,_=>false
theorem apF {a b:Option xO}(h:aui a b=true):a=b:=by
 cases a with
 | none=>cases b with
  | none=>rfl
  | some y=>cases h
 | some x=>
  cases b with
  | none=>cases h
  | some y=>
   cases x;cases y;simp only[aui,iW]at h;rw[Qa h.1,CY h.2.1,AU ZK h.2.2]
def aAl:List (Pv×List Pv)->List (Pv×List Pv)->Bool:=SS fun p q=>alS p.1 q.1 && SS alS p.2 q.2
theorem apJ {a b:List (Pv×List Pv)}(h:aAl a b=true):a=b:=AU (fun{p q} h=>by
 grind [AU,ZK]) h
mutual
def uBq:U->U->Bool
 | .mk s r, .mk f d=>Nat.beq s f && JO r d
 | .map a k z l, .map b e c g=>SN a b && (Nat.beq k e && (SS alS z c && aAl l g))
 | _,_=>false
 termination_by structural a=>a
def JO:List (List UC)->List (List UC)->Bool
 | [],[]=>true
 | a::r,b::c=>CV a b && JO r c
 | _,_=>false
 termination_by structural a=>a
def CV:List UC->List UC->Bool
 | [],[]=>true
 | a::r,b::c=>afx a b && CV r c
 | _,_=>false
 termination_by structural a=>a
def afx:UC->UC->Bool
 | .bool a, .bool b=>SN a b
 | .int k n, .int d c=>Nat.beq (ikN k) (ikN d) && aus n c
 | .str s, .str g=>abw s g
 | .dat u, .dat e=>uBq u e
 | .Uo v, .Uo f=>aui v f
 | _,_=>false
 termination_by structural a=>a
end
mutual
theorem aBc:∀{a b:U},uBq a b=true->a=b
 | .mk s r, .mk g e,h=>by
  simp only[uBq,iW]at h;rw[Qa h.1,WA h.2]
 | .map a k z l, .map c f d i,h=>by
  simp only[uBq,iW]at h;rw[CY h.1,Qa h.2.1,AU ZK h.2.2.1,apJ h.2.2.2]
 | .mk _ _, .map _ _ _ _,h=>by simp[uBq]at h
 | .map _ _ _ _, .mk _ _,h=>by simp[uBq]at h
theorem WA:∀{a b:List (List UC)},JO a b=true->a=b
 | [],[],_=>rfl
 | a::r,b::c,h=>by
  simp only[JO,iW]at h;rw[QP h.1,WA h.2]
 | [],_::_,h=>by simp[JO]at h
 | _::_,[],h=>by simp[JO]at h
theorem QP:∀{a b:List UC},CV a b=true->a=b
 | [],[],_=>rfl
 | a::r,b::c,h=>by
  simp only[CV,iW]at h;rw[awg h.1,QP h.2]
 | [],_::_,h=>by simp[CV]at h
 | _::_,[],h=>by simp[CV]at h
theorem awg:∀{a b:UC},afx a b=true->a=b
 | .bool a,b,h=>by
  cases b<;>simp only[afx]at h<;>first | rw[CY h] | cases h
 | .int k n,b,h=>by
  cases b<;>simp only[afx,iW]at h<;>first | rw[arQ h.1,abG h.2] | cases h
 | .str s,b,h=>by
  cases b<;>simp only[afx]at h<;>first | rw[Rl h] | cases h
 | .dat u,b,h=>by
  cases b<;>simp only[afx]at h<;>first | rw[aBc h] | cases h
 | .Uo v,b,h=>by
  cases b<;>simp only[afx]at h<;>first | rw[apF h] | cases h
end
section
variable {P:Program}{S:Sh U}
end
section
variable {D:Type}{P:Program}{S:Sh D}
end
def gIndexByte {D:Type}(args:List (Sl D)):Option (Sl D):=match args with
 | [.one (.lf (.str s)), .one (.lf (.int .u8 c))]=>some (.one (.lf (.int .i64 (Lib.indexByte s c.toNat.toUInt8))))
 | _=>none
def gCount {D:Type}(args:List (Sl D)):Option (Sl D):=match args with
 | [.one (.lf (.str s)), .one (.lf (.str [c]))]=>some (.one (.lf (.int .i64 (Lib.countByte s c))))
 | _=>none
end Go.Vc
namespace Go.Vc
open Go.RowKit
section
variable {D:Type}{P:Program}{S:Sh D}
theorem enters_of {f:FuncId}{a:Func}(d:P.funcs[f]? =some a)(g:a.body.isSome=true)(b:(a.name== "runtime.NumGoroutine")=false)(args:Array Value)(w:World):(callFunc f args).run P w= .ok (.enter f args) w:=by
 obtain⟨c,e⟩:=Qbi.1 g;have b:¬a.name= "runtime.NumGoroutine" :=by simpa using b
 simp[callFunc,d,b,e]
theorem P6 {f:FuncId}(g:∀(args:Array Value) (w:World),(callFunc f args).run P w= .ok (.enter f args) w)
  (h:∀(s:ByteArray) (c:Int) (w:World),Calls P f #[.string s, .int .u8 c] w fun e k=>e= .returned (.int .i64 (Lib.indexByte s.data.toList c.toNat.toUInt8))/\k=w):CtOk P S f (ctPure gIndexByte):=by
 refine WY g fun M w m args d r b a=> ?_;unfold gIndexByte at b;split at b
 ·rename_i s c;injection b with b
  subst b;match d,a with
  | [n,l],a=>
   obtain⟨⟨j,_⟩,i,_⟩:=a;rw[j,show l= .int .u8 c from i];exact⟨_,h _ _ _,rfl⟩
 ·cases b
theorem aen {f:FuncId}(g:∀(args:Array Value) (w:World),(callFunc f args).run P w= .ok (.enter f args) w)
  (h:∀(s:ByteArray) (c:UInt8) (w:World),Calls P f #[.string s, .string ⟨#[c]⟩] w fun e k=>e= .returned (.int .i64 (Lib.countByte s.data.toList c))/\k=w):CtOk P S f (ctPure gCount):=by
 refine WY g fun M w l args d r b a=> ?_;unfold gCount at b;split at b
 ·rename_i s c;injection b with b
  subst b;match d,a with
  | [m,n],a=>
   obtain⟨⟨j,_⟩,⟨i,_⟩,_⟩:=a;rw[j,i];exact⟨_,h _ _ _,rfl⟩
 ·cases b
end
end Go.Vc
namespace Go.Vc
open Go.RowKit
section
variable {D:Type}
def Tr.line:{R:Type}->Tr D R->Option (Prop×R)
 | _, .ret r=>some (True,r)
 | _, .ob p k=>(match k.line with
  | some (q,r)=>some (p.p/\q,r)
  | none=>none)
 | _, .as _ k=>k.line
 | _, .br b t e=>cond b t.line e.line
 | _, .stuck _=>none
 | _, .halt _ _=>none
 | _, .unk _ _ _=>none
 | _, .loop _ _ _=>none
 | _, .cut _ _ _=>none
theorem Tr.BK:∀{R:Type} (t:Tr D R) (q:Prop) (r:R),t.line=some (q,r)->q->t.run r=some r
 | _, .ret r,q,a,h,_=>by injection h with h;injection h with _ h;subst h;rfl
 | _, .ob p k,q,a,h,c=>by
  simp only[Tr.line]at h;split at h
  ·rename_i g d j;injection h with h
   injection h with i f
   subst i f;simp only[Tr.run];rw[yl c.1];exact Tr.BK k g d j c.2
  ·cases h
 | _, .as p k,q,a,h,c=>by
  have:=Tr.BK k q a h c;simp only[Tr.run]
  grind [zG,wK]
 | _, .br b t e,q,a,h,c=>by
  cases b with
  | true=>exact Tr.BK t q a h c
  | false=>exact Tr.BK e q a h c
 | _, .stuck _,q,a,h,_=>by cases h
 | _, .halt _ _,q,a,h,_=>by cases h
 | _, .unk _ _ _,q,a,h,_=>by cases h
 | _, .loop _ _ _,q,a,h,_=>by cases h
 | _, .cut _ _ _,q,a,h,_=>by cases h
def ctI (T:TypeId->Option Ty)(S:Sh D)(e:FuncId->Option (Ct D))(a:Func):Ct D:=fun args d=>
 if Nat.ble args.length a.ntmps then
  (match(evC T S e a.ntmps (fun _=>none) (DI a) (alk D) (St.init args d) (az_ T S a.results.toList d.length)).line with
  | none=>none
  | some (q,r,c,b)=>some (some (dq q),r,c,b))else none
end
section
variable {D:Type}{P:Program}{S:Sh D}{T:TypeId->Option Ty}{Γ:FuncId->Option (Ct D)}{N:Nat->Prop}{w w':World}{w0:Bs}{g0:Nat->Option Value}{n:Nat}{al:Nat->Prop}{g:Nat->Option Value}{blk:Nat->Option (Bk D)}{ids:List Nat}
theorem aDS {f:FuncId}{j:Func}(u:P.follows .mixedOrders=true)(k:∀t o,T t=some o->TyOk P t o)(D:∀f B,Γ f=some B->CtOk P S f B)(L:ShOk S)(z:P.funcs[f]? =some j)(v:vC j=true):CtOk P S f (ctI T S Γ j):=by
 simp only[vC,iW,Qdf,ne_eq]at v;obtain⟨R,K,A⟩:=v;obtain⟨c,l⟩:=Qbi.1 R;have x:DI j=c:=by simp[DI,l]
 refine⟨fun args w=>by simp[callFunc,z,K,l],fun X N g w args nC Z p r I V y n a m=> ?_⟩;unfold ctI at a;split at a
 ·rename_i d;have d:=Qa0 d;split at a
  ·cases a
  rename_i q U E F b;injection a with a
  injection a with H a
  injection a with M a
  injection a with G O
  subst H M G O;have b:=Tr.BK _ _ _ b m;rw[x]at b A;refine calls_of_wp z l (ev_sound (J:=fun _=>none) (fun _ _ h=>by cases h) u k D L (w0:=⟨w,X⟩) (N:=N) c _ _ _ _ _ _ _ w A b (ER y n d) fun e Y W w' Q s _ C=> ?_);cases e with
  | exit i=>cases C
  | _=>exact ace k y s Q (aaw C)
 ·cases a
def aHI (Z:Seat D)(l:List (Ent Z))(f:FuncId){a:Func}(b:Z.P.funcs[f]? =some a)(c:vC a=true):Ent Z:=
 ⟨f,ctI Z.T Z.S (Ad l) a,aDS Z.mx Z.hT (fun _ _ h=>Dh h) Z.hS b c⟩
end
section
variable {D:Type}
def Tr.road:List Bool->{R:Type}->Tr D R->Option (Prop×R)
 | _,_, .ret r=>some (True,r)
 | cs,_, .ob p k=>(match k.road cs with
  | some (q,r)=>some (p.p/\q,r)
  | none=>none)
 | cs,_, .as _ k=>k.road cs
 | c::cs,_, .br b t e=>(match c with
  | true=>(match t.road cs with
   | some (q,r)=>some (b=true/\q,r)
   | none=>none)
  | false=>(match e.road cs with
   | some (q,r)=>some (b=false/\q,r)
   | none=>none))
 | [],_, .br _ _ _=>none
 | _,_, .stuck _=>none
 | _,_, .halt _ _=>none
 | _,_, .unk _ _ _=>none
 | _,_, .loop _ _ _=>none
 | _,_, .cut _ _ _=>none
theorem Tr.BL:∀(cs:List Bool) {R:Type} (t:Tr D R) (q:Prop) (r:R),t.road cs=some (q,r)->q->t.run r=some r
 | cs,_, .ret r,q,a,h,_=>by
  simp only[Tr.road]at h;injection h with h;injection h with _ h;subst h;rfl
 | cs,_, .ob p k,q,a,h,d=>by
  simp only[Tr.road]at h;split at h
  ·rename_i i f l;injection h with h
   injection h with j g
   subst j g;simp only[Tr.run];rw[yl d.1];exact Tr.BL cs k i f l d.2
  ·cases h
 | cs,_, .as p k,q,a,h,d=>by
  simp only[Tr.road]at h;have:=Tr.BL cs k q a h d;simp only[Tr.run]
  grind [zG,wK]
 | c::cs,_, .br b t e,q,a,h,d=>by
  simp only[Tr.road]at h;cases c with
  | true=>
   dsimp only at h;split at h
   ·rename_i i f l;injection h with h
    injection h with j g
    subst j g;simp only[Tr.run,d.1,xU];exact Tr.BL cs t i f l d.2
   ·cases h
  | false=>
   dsimp only at h;split at h
   ·rename_i i f l;injection h with h
    injection h with j g
    subst j g;simp only[Tr.run,d.1,og];exact Tr.BL cs e i f l d.2
   ·cases h
 | [],_, .br _ _ _,q,a,h,_=>by simp[Tr.road]at h
 | cs,_, .stuck _,q,a,h,_=>by simp[Tr.road]at h
 | cs,_, .halt _ _,q,a,h,_=>by simp[Tr.road]at h
 | cs,_, .unk _ _ _,q,a,h,_=>by simp[Tr.road]at h
 | cs,_, .loop _ _ _,q,a,h,_=>by simp[Tr.road]at h
 | cs,_, .cut _ _ _,q,a,h,_=>by simp[Tr.road]at h
def aEc (T:TypeId->Option Ty)(S:Sh D)(e:FuncId->Option (Ct D))(a:Func)(cs:List Bool):Ct D:=fun args d=>
 if Nat.ble args.length a.ntmps then
  (match(evC T S e a.ntmps (fun _=>none) (DI a) (alk D) (St.init args d) (az_ T S a.results.toList d.length)).road cs with
  | none=>none
  | some (q,r,c,b)=>some (some (dq q),r,c,b))else none
end
section
variable {D:Type}{P:Program}{S:Sh D}{T:TypeId->Option Ty}{Γ:FuncId->Option (Ct D)}{N:Nat->Prop}{w w':World}{w0:Bs}{g0:Nat->Option Value}{n:Nat}{al:Nat->Prop}{g:Nat->Option Value}{blk:Nat->Option (Bk D)}{ids:List Nat}
theorem axQ {f:FuncId}{j:Func}{cs:List Bool}(u:P.follows .mixedOrders=true)(k:∀t o,T t=some o->TyOk P t o)(D:∀f B,Γ f=some B->CtOk P S f B)(L:ShOk S)(z:P.funcs[f]? =some j)(v:vC j=true):CtOk P S f (aEc T S Γ j cs):=by
 simp only[vC,iW,Qdf,ne_eq]at v;obtain⟨R,K,A⟩:=v;obtain⟨c,l⟩:=Qbi.1 R;have x:DI j=c:=by simp[DI,l]
 refine⟨fun args w=>by simp[callFunc,z,K,l],fun X N g w args nC Z p r I V y n a m=> ?_⟩;unfold aEc at a;split at a
 ·rename_i d;have d:=Qa0 d;split at a
  ·cases a
  rename_i q U E F b;injection a with a
  injection a with H a
  injection a with M a
  injection a with G O
  subst H M G O;have b:=Tr.BL cs _ _ _ b m;rw[x]at b A;refine calls_of_wp z l (ev_sound (J:=fun _=>none) (fun _ _ h=>by cases h) u k D L (w0:=⟨w,X⟩) (N:=N) c _ _ _ _ _ _ _ w A b (ER y n d) fun e Y W w' Q s _ C=> ?_);cases e with
  | exit i=>cases C
  | _=>exact ace k y s Q (aaw C)
 ·cases a
def xQ (Z:Seat D)(l:List (Ent Z))(f:FuncId){a:Func}(cs:List Bool)(b:Z.P.funcs[f]? =some a)(c:vC a=true):Ent Z:=
 ⟨f,aEc Z.T Z.S (Ad l) a cs,axQ Z.mx Z.hT (fun _ _ h=>Dh h) Z.hS b c⟩
theorem ctN_if {f:FuncId}{g:sU D}{l:Shp D}{k:Nat}{e:List Nat}{c:g.A->Bool}{p:g.A->Prop}{f1 f2:g.A->l.X}(u:CtOk P S f (ctN g l k e (fun a=>some (c a=true/\p a)) f1))
  (B:CtOk P S f (ctN g l k e (fun a=>some (c a=false/\p a)) f2)):CtOk P S f (ctN g l k e (fun a=>some (p a)) (fun a=>bif c a then f1 a else f2 a)):=by
 refine⟨u.enters,fun X N m w args v t q r A F n i b d=> ?_⟩;unfold ctN at b;split at b
 ·cases b
 rename_i a o;injection b with b
 injection b with y b
 injection b with C b
 injection b with x E
 subst y C x E;have d:p a:=d;have s:∀z,(bif c a then f1 a else f2 a)=z->(fun a=>bif c a then f1 a else f2 a) a=z:=fun z h=>h
 cases j:c a with
 | true=>
  rw[s _ (by rw[j])];exact u.calls X N m w args v t (some (dq (c a=true/\p a))) _ _ _ n i (by unfold ctN;rw[o];rfl) ⟨j,d⟩
 | false=>
  rw[s _ (by rw[j])];exact B.calls X N m w args v t (some (dq (c a=false/\p a))) _ _ _ n i (by unfold ctN;rw[o];rfl) ⟨j,d⟩
end
end Go.Vc

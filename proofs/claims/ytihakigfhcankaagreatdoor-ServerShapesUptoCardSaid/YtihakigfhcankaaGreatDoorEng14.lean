/- Own engine: Vea, Veb, Vec, Veg, Veh, Vej. -/
import Derived.Test.YtihakigfhcankaaGreatDoorEng13
import Derived.Lib.Bytealg
set_option linter.unusedVariables false
set_option linter.unusedSimpArgs false
namespace Go.Vc
open Go.RowKit
mutual
inductive U where
 | mk (sz:Nat) (rows:List (List UC))
 | map (ag:Bool) (kd:Nat) (z:List Pv) (kvs:List (Pv×List Pv))
inductive UC where
 | bool (b:Bool)
 | int (k:IntKind) (n:Int)
 | str (s:List UInt8)
 | dat (u:U)
 | Xb (v:Option mO)
end
def U.size:U->Nat
 | .mk sz _=>sz
 | .map _ _ _ _=>0
def U.rows:U->List (List UC)
 | .mk _ r=>r
 | .map _ _ _ _=>[]
def U.Am:U->Option (Mp U)
 | .mk _ _=>none
 | .map ag kd z kvs=>if kvs.all (fun p=>Nat.beq p.1.kind kd)then some ⟨kd,ag,z,kvs,fun k=>(yz k kvs).isSome,fun k=>((yz k kvs).getD z).map Pv.lf,fun k vs=> .map ag kd z (TP k vs kvs),kvs.length⟩else none
def UC.lf:UC->Lf U
 | .bool b=> .bool b
 | .int k n=> .int k n
 | .str s=> .str s
 | .dat u=> .dat u
 | .Xb v=> .Xb v
theorem UC.data (c:UC):c.lf.jJ=true:=by cases c<;>rfl
section
variable {ks:TypeId->Option (List Nat)}{gl:Nat->Option U}{mk:TypeId->Option (Bool×Nat×List Pv)}
end
end Go.Vc
namespace Go.Vc
open Go.RowKit
end Go.Vc
namespace Go.Vc
open Go.RowKit
section
variable {D:Type}{P:Program}{S:Sh D}
def Ea (g:List (Sl D)->Option (Sl D)):Ct D:=fun args dH=>
 match dH,g args with
 | [],some r=>some (none,r,[],[])
 | _,_=>none
theorem aiG:uO (D:=D) [] [] []=kQ []:=by
 funext i;simp[uO,kQ,jW,rC]
theorem Yw {f:FuncId}{g:List (Sl D)->Option (Sl D)}(hen:∀(args:Array Value) (w:World),(callFunc f args).run P w= .ok (.enter f args) w)
  (h:∀(M:Nat->Prop) (w:World) (gh:Nat->Option Value) (args:List (Sl D)) (vals:List Value) (r:Sl D),g args=some r->iw S M w gh args vals->∃v,(Calls P f vals.toArray w fun e w'=>e= .returned v/\w'=w)/\r.Rel S M w gh v):fV P S f (Ea g):=by
 refine⟨hen,fun X N gh w args nT dH p r post kp hp hrel hct hpre=> ?_⟩;unfold Ea at hct;split at hct
 ·rename_i r' hr;injection hct with hct
  injection hct with q1 hct
  injection hct with q2 hct
  injection hct with q3 q4
  subst q2 q3 q4;obtain⟨v,hc,hv⟩:=h _ _ _ _ _ _ hr hrel;refine hc.mono ?_;rintro e w' ⟨rfl,rfl⟩;refine⟨v,gh,rfl,fun _ _ h=>h,?_,?_⟩
  ·rw[aiG];exact hp.weaken fun _ _=>trivial
  ·rw[aiG];exact hv
 ·cases hct
def Ql (tB:TypeId):Ct D:=fun args dH=>
 match args,dH with
 | [.one (.lf (.ptr 0 0))], .tc t [c1]::r=>if Nat.beq t tB then some (none, .xx [],[(0, .tc t [c1])],(List.range (r.length+1)).filter fun i=> !Nat.beq i 0)else none
 | _,_=>none
theorem TS {bk bk':Bk D}{r:List (Bk D)}:uO [(0,bk')] ((List.range (r.length+1)).filter fun i=> !Nat.beq i 0) (bk::r)=upd (kQ (bk::r)) 0 (some bk'):=by
 funext i;simp only[uO,jW,kQ];by_cases hi:i=0
 ·subst hi;simp[upd_same]
 ·have h0:¬(Nat.beq 0 i=true):=fun e=>hi (Qa e).symm
  rw[qC h0,bK _ _ _ _ hi];dsimp only;by_cases hl:i < r.length+1
  ·have hb:(!Nat.beq i 0)=true:=by
    cases e:Nat.beq i 0 with
    | true=>exact absurd (Qa e) hi
    | false=>rfl
   rw[Qb (gX.2 (Qbx.2 ⟨Qcs.2 hl,hb⟩))];rfl
  ·rw[qC (fun hm=>hl (Qcs.1 (Qbx.1 (gX.1 hm)).1))];exact(Qc (by simpa using hl)).symm
theorem ahx {f:FuncId}{tB:TypeId}(hen:∀(args:Array Value) (w:World),(callFunc f args).run P w= .ok (.enter f args) w)
  (h1:∀(b:Nat) (w:World),w.cell? ⟨b,0,none⟩=some (.pointer (some ⟨b,0,none⟩))->Calls P f #[.pointer (some ⟨b,0,none⟩)] w fun e w'=>e= .returned (.tuple #[])/\w'=w)
  (h2:∀(b:Nat) (w:World),w.cell? ⟨b,0,none⟩=some (.pointer none)->w.shape? b=some (tB,2)->w.frozen? ⟨b,0,none⟩=false->Calls P f #[.pointer (some ⟨b,0,none⟩)] w fun e w'=>e= .returned (.tuple #[])/\w'=w.setCell ⟨b,0,none⟩ (.pointer (some ⟨b,0,none⟩))):
  fV P S f (Ql tB):=by
 refine⟨hen,fun X N gh w args nT dH p r post kp hp hrel hct hpre=> ?_⟩;unfold Ql at hct;split at hct
 ·rename_i t c1 rs;obtain⟨v,hg,b,vs,rfl,hm,⟨u0,hh,hu0⟩,hr⟩:=hp.dH 0 (.tc t [c1]) rfl;have hargs:args=[.pointer (some ⟨b,0,none⟩)]:=by
   match args,hrel with
   | [a],hrel=>
    obtain⟨b',hb',ha⟩:=hrel.1;rw[hg]at hb';injection hb' with hb'
    injection hb' with hb'
    injection hb' with hb'
    injection hb' with hb'
    subst hb';rw[ha]
  subst hargs;match vs,hr,hh with
  | [u1],hr,hh=>
  have hc0:w.cell? ⟨b,0,none⟩=some u0:=by rw[cell_of hh];rfl
  split at hct
  ·rename_i hte;have hte:=Qa hte;subst hte;injection hct with hct
   injection hct with q1 hct
   injection hct with q2 hct
   injection hct with q3 q4
   subst q2 q3 q4;rcases hu0 with rfl | rfl
   ·refine(h2 b w hc0 (by simp[World.shape?,hh]) (by simp[World.frozen?,hh])).mono ?_;rintro e w' ⟨rfl,rfl⟩;refine⟨_,gh,rfl,fun _ _ h=>h,?_,[],rfl,trivial⟩;rw[TS];have hset:∀n,n≠b->(w.setCell ⟨b,0,none⟩ (.pointer (some ⟨b,0,none⟩))).heap[n]? =w.heap[n]? :=fun n hn=>by
     simp only[World.setCell];rw[Qco,qC (Ne.symm hn)]
    obtain⟨h3,_⟩:=hp.write (w':=w.setCell ⟨b,0,none⟩ (.pointer (some ⟨b,0,none⟩))) (bk':= .tc t [c1]) (l:=0) (b:=b) rfl rfl rfl hg rfl rfl rfl rfl (by simp[World.setCell]) hset
     (fun hk=>⟨b,[u1],rfl,hm,⟨.pointer (some ⟨b,0,none⟩),by simp[World.setCell,Qco,hh], .inr rfl⟩,hr.1.keep hk (More.refl _),trivial⟩)
    exact h3.weaken fun _ _=>trivial
   ·refine(h1 b w hc0).mono ?_;rintro e w' ⟨rfl,rfl⟩;refine⟨_,gh,rfl,fun _ _ h=>h,?_,[],rfl,trivial⟩;rw[TS];obtain⟨h3,_⟩:=hp.write (w':=w') (bk':= .tc t [c1]) (l:=0) (b:=b) rfl rfl rfl hg rfl rfl rfl rfl rfl (fun _ _=>rfl)
     (fun hk=>⟨b,[u1],rfl,hm,⟨_,hh, .inr rfl⟩,hr.1.keep hk (More.refl _),trivial⟩)
    exact h3.weaken fun _ _=>trivial
  ·cases hct
 ·cases hct
end
section
variable {D:Type}{P:Program}{S:Sh D}
end
end Go.Vc
namespace Go.Vc
open Go.RowKit
def acQ:List UInt8->List UInt8->Bool
 | [],[]=>true
 | a::r,b::r'=>Nat.beq a.toNat b.toNat && acQ r r'
 | _,_=>false
theorem SS:∀{a b:List UInt8},acQ a b=true->a=b
 | [],[],_=>rfl
 | a::r,b::r',h=>by
  simp only[acQ,jY]at h;rw[UInt8.toNat_inj.1 (Qa h.1),SS h.2]
 | [],_::_,h=>by cases h
 | _::_,[],h=>by cases h
def ikN:IntKind->Nat
 | .i8=>0 | .i16=>1 | .i32=>2 | .i64=>3 | .u8=>4 | .u16=>5 | .u32=>6 | .u64=>7
theorem ao3 {a b:IntKind}(h:Nat.beq (ikN a) (ikN b)=true):a=b:=by
 cases a<;>cases b<;>first | rfl | cases h
def as9:Int->Int->Bool
 | .ofNat a, .ofNat b=>Nat.beq a b
 | .negSucc a, .negSucc b=>Nat.beq a b
 | _,_=>false
theorem acH {a b:Int}(h:as9 a b=true):a=b:=by
 cases a<;>cases b<;>first | cases h | rw[Qa h]
def RJ:Bool->Bool->Bool
 | true,true=>true
 | false,false=>true
 | _,_=>false
theorem En {a b:Bool}(h:RJ a b=true):a=b:=by cases a<;>cases b<;>first | rfl | cases h
def amM:Pv->Pv->Bool
 | .bool a, .bool b=>RJ a b
 | .int k n, .int k' n'=>Nat.beq (ikN k) (ikN k') && as9 n n'
 | .str s, .str s'=>acQ s s'
 | _,_=>false
theorem Qq {a b:Pv}(h:amM a b=true):a=b:=by
 cases a<;>cases b<;>first | cases h | skip
 ·rw[En h]
 ·simp only[amM,jY]at h;rw[ao3 h.1,acH h.2]
 ·rw[SS h]
def Va {A:Type}(f:A->A->Bool):List A->List A->Bool
 | [],[]=>true
 | a::r,b::r'=>f a b && Va f r r'
 | _,_=>false
theorem Dw {A:Type}{f:A->A->Bool}(hf:∀{a b},f a b=true->a=b):∀{a b:List A},Va f a b=true->a=b
 | [],[],_=>rfl
 | a::r,b::r',h=>by
  simp only[Va,jY]at h;rw[hf h.1,Dw hf h.2]
 | [],_::_,h=>by cases h
 | _::_,[],h=>by cases h
def apg:Option mO->Option mO->Bool
 | none,none=>true
 | some ⟨t,g,xs⟩,some ⟨t',g',xs'⟩=>Nat.beq t t' && (RJ g g' && Va amM xs xs')
 | _,_=>false
theorem ard {a b:Option mO}(h:apg a b=true):a=b:=by
 cases a with
 | none=>cases b with
  | none=>rfl
  | some y=>cases h
 | some x=>
  cases b with
  | none=>cases h
  | some y=>
   cases x;cases y;simp only[apg,jY]at h;rw[Qa h.1,En h.2.1,Dw Qq h.2.2]
def az3:List (Pv×List Pv)->List (Pv×List Pv)->Bool:=Va fun p q=>amM p.1 q.1 && Va amM p.2 q.2
theorem arL {a b:List (Pv×List Pv)}(h:az3 a b=true):a=b:=Dw (fun{p q} h=>by
 simp only[jY]at h;exact Prod.ext (Qq h.1) (Dw Qq h.2)) h
mutual
def uBq:U->U->Bool
 | .mk s r, .mk s' r'=>Nat.beq s s' && Lu r r'
 | .map a k z l, .map a' k' z' l'=>RJ a a' && (Nat.beq k k' && (Va amM z z' && az3 l l'))
 | _,_=>false
 termination_by structural a=>a
def Lu:List (List UC)->List (List UC)->Bool
 | [],[]=>true
 | a::r,b::r'=>E8 a b && Lu r r'
 | _,_=>false
 termination_by structural a=>a
def E8:List UC->List UC->Bool
 | [],[]=>true
 | a::r,b::r'=>ahs a b && E8 r r'
 | _,_=>false
 termination_by structural a=>a
def ahs:UC->UC->Bool
 | .bool a, .bool b=>RJ a b
 | .int k n, .int k' n'=>Nat.beq (ikN k) (ikN k') && as9 n n'
 | .str s, .str s'=>acQ s s'
 | .dat u, .dat u'=>uBq u u'
 | .Xb v, .Xb v'=>apg v v'
 | _,_=>false
 termination_by structural a=>a
end
mutual
theorem aBu:∀{a b:U},uBq a b=true->a=b
 | .mk s r, .mk s' r',h=>by
  simp only[uBq,jY]at h;rw[Qa h.1,XJ h.2]
 | .map a k z l, .map a' k' z' l',h=>by
  simp only[uBq,jY]at h;rw[En h.1,Qa h.2.1,Dw Qq h.2.2.1,arL h.2.2.2]
 | .mk _ _, .map _ _ _ _,h=>by simp[uBq]at h
 | .map _ _ _ _, .mk _ _,h=>by simp[uBq]at h
theorem XJ:∀{a b:List (List UC)},Lu a b=true->a=b
 | [],[],_=>rfl
 | a::r,b::r',h=>by
  simp only[Lu,jY]at h;rw[U2 h.1,XJ h.2]
 | [],_::_,h=>by simp[Lu]at h
 | _::_,[],h=>by simp[Lu]at h
theorem U2:∀{a b:List UC},E8 a b=true->a=b
 | [],[],_=>rfl
 | a::r,b::r',h=>by
  simp only[E8,jY]at h;rw[aw9 h.1,U2 h.2]
 | [],_::_,h=>by simp[E8]at h
 | _::_,[],h=>by simp[E8]at h
theorem aw9:∀{a b:UC},ahs a b=true->a=b
 | .bool a,b,h=>by
  cases b<;>simp only[ahs]at h<;>first | rw[En h] | cases h
 | .int k n,b,h=>by
  cases b<;>simp only[ahs,jY]at h<;>first | rw[ao3 h.1,acH h.2] | cases h
 | .str s,b,h=>by
  cases b<;>simp only[ahs]at h<;>first | rw[SS h] | cases h
 | .dat u,b,h=>by
  cases b<;>simp only[ahs]at h<;>first | rw[aBu h] | cases h
 | .Xb v,b,h=>by
  cases b<;>simp only[ahs]at h<;>first | rw[ard h] | cases h
end
section
variable {P:Program}{S:Sh U}
end
section
variable {D:Type}{P:Program}{S:Sh D}
end
def BO {D:Type}(args:List (Sl D)):Option (Sl D):=match args with
 | [.one (.lf (.str s)), .one (.lf (.int .u8 c))]=>some (.one (.lf (.int .i64 (Lib.indexByte s c.toNat.toUInt8))))
 | _=>none
def ZJ {D:Type}(args:List (Sl D)):Option (Sl D):=match args with
 | [.one (.lf (.str s)), .one (.lf (.str [c]))]=>some (.one (.lf (.int .i64 (Lib.countByte s c))))
 | _=>none
end Go.Vc
namespace Go.Vc
open Go.RowKit
section
variable {D:Type}{P:Program}{S:Sh D}
theorem enters_of {f:FuncId}{fn:Func}(hf:P.funcs[f]? =some fn)(h1:fn.body.isSome=true)(h2:(fn.name== "runtime.NumGoroutine")=false)(args:Array Value)(w:World):(callFunc f args).run P w= .ok (.enter f args) w:=by
 obtain⟨c,hb⟩:=Qb2.1 h1;have h2:¬fn.name= "runtime.NumGoroutine" :=by simpa using h2
 simp[callFunc,hf,h2,hb]
theorem UF {f:FuncId}(hen:∀(args:Array Value) (w:World),(callFunc f args).run P w= .ok (.enter f args) w)
  (h:∀(s:ByteArray) (c:Int) (w:World),Calls P f #[.string s, .int .u8 c] w fun e w'=>e= .returned (.int .i64 (Lib.indexByte s.data.toList c.toNat.toUInt8))/\w'=w):fV P S f (Ea BO):=by
 refine Yw hen fun M w gh args vals r hg hrel=> ?_;unfold BO at hg;split at hg
 ·rename_i s c;injection hg with hg
  subst hg;match vals,hrel with
  | [v1,v2],hrel=>
   obtain⟨⟨h1,_⟩,h2,_⟩:=hrel;rw[h1,show v2= .int .u8 c from h2];exact⟨_,h _ _ _,rfl⟩
 ·cases hg
theorem afw {f:FuncId}(hen:∀(args:Array Value) (w:World),(callFunc f args).run P w= .ok (.enter f args) w)
  (h:∀(s:ByteArray) (c:UInt8) (w:World),Calls P f #[.string s, .string ⟨#[c]⟩] w fun e w'=>e= .returned (.int .i64 (Lib.countByte s.data.toList c))/\w'=w):fV P S f (Ea ZJ):=by
 refine Yw hen fun M w gh args vals r hg hrel=> ?_;unfold ZJ at hg;split at hg
 ·rename_i s c;injection hg with hg
  subst hg;match vals,hrel with
  | [v1,v2],hrel=>
   obtain⟨⟨h1,_⟩,⟨h2,_⟩,_⟩:=hrel;rw[h1,h2];exact⟨_,h _ _ _,rfl⟩
 ·cases hg
end
end Go.Vc
namespace Go.Vc
open Go.RowKit
section
variable {D:Type}
def Tr.line:{R:Type}->Tr D R->Option (Prop×R)
 | _, .ret r=>some (True,r)
 | _, .ob p k=>(match k.line with
  | some (q,r)=>some (p.p/\q,r)
  | none=>none)
 | _, .as _ k=>k.line
 | _, .br b t e=>cond b t.line e.line
 | _, .stuck _=>none
 | _, .halt _ _=>none
 | _, .unk _ _ _=>none
 | _, .loop _ _ _=>none
 | _, .cut _ _ _=>none
theorem Tr.Eg:∀{R:Type} (t:Tr D R) (q:Prop) (r:R),t.line=some (q,r)->q->t.run r=some r
 | _, .ret r,q,r',h,_=>by injection h with h;injection h with _ h;subst h;rfl
 | _, .ob p k,q,r',h,hq=>by
  simp only[Tr.line]at h;split at h
  ·rename_i q' r'' hk;injection h with h
   injection h with h1 h2
   subst h1 h2;simp only[Tr.run];rw[wG hq.1];exact Tr.Eg k q' r'' hk hq.2
  ·cases h
 | _, .as p k,q,r',h,hq=>by
  have:=Tr.Eg k q r' h hq;simp only[Tr.run];by_cases hp:p
  ·rw[x_ hp];exact this
  ·rw[Bq hp]
 | _, .br b t e,q,r',h,hq=>by
  cases b with
  | true=>exact Tr.Eg t q r' h hq
  | false=>exact Tr.Eg e q r' h hq
 | _, .stuck _,q,r',h,_=>by cases h
 | _, .halt _ _,q,r',h,_=>by cases h
 | _, .unk _ _ _,q,r',h,_=>by cases h
 | _, .loop _ _ _,q,r',h,_=>by cases h
 | _, .cut _ _ _,q,r',h,_=>by cases h
def ctI (T:TypeId->Option Ty)(S:Sh D)(Γ:FuncId->Option (Ct D))(fn:Func):Ct D:=fun args dH=>
 if Nat.ble args.length fn.ntmps then
  (match(U_ T S Γ fn.ntmps (fun _=>none) (F8 fn) (aqC D) (St.init args dH) (ay4 T S fn.results.toList dH.length)).line with
  | none=>none
  | some (q,r,post,keep)=>some (some (dq q),r,post,keep))else none
end
section
variable {D:Type}{P:Program}{S:Sh D}{T:TypeId->Option Ty}{Γ:FuncId->Option (Ct D)}{N:Nat->Prop}{w w':World}{w0:Bs}{g0:Nat->Option Value}{n:Nat}{al:Nat->Prop}{g:Nat->Option Value}{blk:Nat->Option (Bk D)}{ids:List Nat}
theorem aCc {f:FuncId}{fn:Func}(hmx:P.follows .mixedOrders=true)(hTy:∀t ty,T t=some ty->fU P t ty)(hΓ:∀f ct,Γ f=some ct->fV P S f ct)(hS:jd S)(hf:P.funcs[f]? =some fn)(hc:xy fn=true):fV P S f (ctI T S Γ fn):=by
 simp only[xy,jY,Qd5,ne_eq]at hc;obtain⟨h1,h2,h3⟩:=hc;obtain⟨c,hb⟩:=Qb2.1 h1;have hbf:F8 fn=c:=by simp[F8,hb]
 refine⟨fun args w=>by simp[callFunc,hf,h2,hb],fun X N g w args nT dH p r post kp hp hrel hct hpre=> ?_⟩;unfold ctI at hct;split at hct
 ·rename_i hle;have hle:=Qa2 hle;split at hct
  ·cases hct
  rename_i q r' post' keep' hgo;injection hct with hct
  injection hct with q1 hct
  injection hct with q2 hct
  injection hct with q3 q4
  subst q1 q2 q3 q4;have hgo:=Tr.Eg _ _ _ hgo hpre;rw[hbf]at hgo h3;have hlt:∀l v,g l=some v->l < dH.length:=hp.al;have hrf:∀(l:Nat) (bk:Bk D),dH[l]? =some bk->∀r∈bk.refs,r < dH.length:=fun l bk hb r hr=>by
   obtain⟨v,hv,hok⟩:=hp.dH l bk hb;cases bk with
   | cells cs=>
    obtain⟨b,vs,t,_,_,_,hr'⟩:=hok;obtain⟨u,hu⟩:=aZ.iO hr' r hr;exact hlt r u hu
   | row e d=>simp[Bk.refs]at hr
   | wE d=>simp[Bk.refs]at hr
   | iter s p=>simp[Bk.refs]at hr
   | map kvs=>simp[Bk.refs]at hr
   | tc t cs=>
    obtain⟨b,vs,_,_,_,hr'⟩:=hok;obtain⟨u,hu⟩:=aZ.iO hr' r hr;exact hlt r u hu
  refine calls_of_wp hf hb (Vl (J:=fun _=>none) (fun _ _ h=>by cases h) hmx hTy hΓ hS (w0:=⟨w,X⟩) (N:=N) c _ _ _ _ _ _ _ w h3 hgo (GR hp hrel hle) fun e s' a' w' h' hpb _ hk=> ?_);have fin:(am7 T S fn.results.toList dH.length s').run (r',post',keep')=some (r',post',keep')->a'.defers=[]/\∃v,(results fn a'.tmps).run P w'= .ok v w'/\∃v' g',Ending.returned v= .returned v'/\More g g'/\Hp S ⟨w,X⟩ N (uO post' keep' dH) g' (fun _=>True) w'/\
    r'.Rel S (aW N (uO post' keep' dH) g') w' g' v':=by
   intro hk;obtain⟨h1,v,h2,g',h3,h4,h5⟩:=Uf hTy hlt hrf hpb h' hk;exact⟨h1,v,h2,v,g',rfl,h3,h4,h5⟩
  cases e with
  | normal=>exact fin hk
  | ret=>exact fin hk
  | exit i=>cases hk
 ·cases hct
def aGW (Z:Seat D)(l:List (aU Z))(f:FuncId){fn:Func}(hf:Z.P.funcs[f]? =some fn)(hc:xy fn=true):aU Z:=
 ⟨f,ctI Z.T Z.S (CB l) fn,aCc Z.mx Z.hT (fun _ _ h=>E5 h) Z.hS hf hc⟩
end
section
variable {D:Type}
def Tr.road:List Bool->{R:Type}->Tr D R->Option (Prop×R)
 | _,_, .ret r=>some (True,r)
 | cs,_, .ob p k=>(match k.road cs with
  | some (q,r)=>some (p.p/\q,r)
  | none=>none)
 | cs,_, .as _ k=>k.road cs
 | c::cs,_, .br b t e=>(match c with
  | true=>(match t.road cs with
   | some (q,r)=>some (b=true/\q,r)
   | none=>none)
  | false=>(match e.road cs with
   | some (q,r)=>some (b=false/\q,r)
   | none=>none))
 | [],_, .br _ _ _=>none
 | _,_, .stuck _=>none
 | _,_, .halt _ _=>none
 | _,_, .unk _ _ _=>none
 | _,_, .loop _ _ _=>none
 | _,_, .cut _ _ _=>none
theorem Tr.Eh:∀(cs:List Bool) {R:Type} (t:Tr D R) (q:Prop) (r:R),t.road cs=some (q,r)->q->t.run r=some r
 | cs,_, .ret r,q,r',h,_=>by
  simp only[Tr.road]at h;injection h with h;injection h with _ h;subst h;rfl
 | cs,_, .ob p k,q,r',h,hq=>by
  simp only[Tr.road]at h;split at h
  ·rename_i q' r'' hk;injection h with h
   injection h with h1 h2
   subst h1 h2;simp only[Tr.run];rw[wG hq.1];exact Tr.Eh cs k q' r'' hk hq.2
  ·cases h
 | cs,_, .as p k,q,r',h,hq=>by
  simp only[Tr.road]at h;have:=Tr.Eh cs k q r' h hq;simp only[Tr.run];by_cases hp:p
  ·rw[x_ hp];exact this
  ·rw[Bq hp]
 | c::cs,_, .br b t e,q,r',h,hq=>by
  simp only[Tr.road]at h;cases c with
  | true=>
   dsimp only at h;split at h
   ·rename_i q' r'' hk;injection h with h
    injection h with h1 h2
    subst h1 h2;simp only[Tr.run,hq.1,wB];exact Tr.Eh cs t q' r'' hk hq.2
   ·cases h
  | false=>
   dsimp only at h;split at h
   ·rename_i q' r'' hk;injection h with h
    injection h with h1 h2
    subst h1 h2;simp only[Tr.run,hq.1,nR];exact Tr.Eh cs e q' r'' hk hq.2
   ·cases h
 | [],_, .br _ _ _,q,r',h,_=>by simp[Tr.road]at h
 | cs,_, .stuck _,q,r',h,_=>by simp[Tr.road]at h
 | cs,_, .halt _ _,q,r',h,_=>by simp[Tr.road]at h
 | cs,_, .unk _ _ _,q,r',h,_=>by simp[Tr.road]at h
 | cs,_, .loop _ _ _,q,r',h,_=>by simp[Tr.road]at h
 | cs,_, .cut _ _ _,q,r',h,_=>by simp[Tr.road]at h
def aDn (T:TypeId->Option Ty)(S:Sh D)(Γ:FuncId->Option (Ct D))(fn:Func)(cs:List Bool):Ct D:=fun args dH=>
 if Nat.ble args.length fn.ntmps then
  (match(U_ T S Γ fn.ntmps (fun _=>none) (F8 fn) (aqC D) (St.init args dH) (ay4 T S fn.results.toList dH.length)).road cs with
  | none=>none
  | some (q,r,post,keep)=>some (some (dq q),r,post,keep))else none
end
section
variable {D:Type}{P:Program}{S:Sh D}{T:TypeId->Option Ty}{Γ:FuncId->Option (Ct D)}{N:Nat->Prop}{w w':World}{w0:Bs}{g0:Nat->Option Value}{n:Nat}{al:Nat->Prop}{g:Nat->Option Value}{blk:Nat->Option (Bk D)}{ids:List Nat}
theorem awi {f:FuncId}{fn:Func}{cs:List Bool}(hmx:P.follows .mixedOrders=true)(hTy:∀t ty,T t=some ty->fU P t ty)(hΓ:∀f ct,Γ f=some ct->fV P S f ct)(hS:jd S)(hf:P.funcs[f]? =some fn)(hc:xy fn=true):fV P S f (aDn T S Γ fn cs):=by
 simp only[xy,jY,Qd5,ne_eq]at hc;obtain⟨h1,h2,h3⟩:=hc;obtain⟨c,hb⟩:=Qb2.1 h1;have hbf:F8 fn=c:=by simp[F8,hb]
 refine⟨fun args w=>by simp[callFunc,hf,h2,hb],fun X N g w args nT dH p r post kp hp hrel hct hpre=> ?_⟩;unfold aDn at hct;split at hct
 ·rename_i hle;have hle:=Qa2 hle;split at hct
  ·cases hct
  rename_i q r' post' keep' hgo;injection hct with hct
  injection hct with q1 hct
  injection hct with q2 hct
  injection hct with q3 q4
  subst q1 q2 q3 q4;have hgo:=Tr.Eh cs _ _ _ hgo hpre;rw[hbf]at hgo h3;have hlt:∀l v,g l=some v->l < dH.length:=hp.al;have hrf:∀(l:Nat) (bk:Bk D),dH[l]? =some bk->∀r∈bk.refs,r < dH.length:=fun l bk hb r hr=>by
   obtain⟨v,hv,hok⟩:=hp.dH l bk hb;cases bk with
   | cells cs=>
    obtain⟨b,vs,t,_,_,_,hr'⟩:=hok;obtain⟨u,hu⟩:=aZ.iO hr' r hr;exact hlt r u hu
   | row e d=>simp[Bk.refs]at hr
   | wE d=>simp[Bk.refs]at hr
   | iter s p=>simp[Bk.refs]at hr
   | map kvs=>simp[Bk.refs]at hr
   | tc t cs=>
    obtain⟨b,vs,_,_,_,hr'⟩:=hok;obtain⟨u,hu⟩:=aZ.iO hr' r hr;exact hlt r u hu
  refine calls_of_wp hf hb (Vl (J:=fun _=>none) (fun _ _ h=>by cases h) hmx hTy hΓ hS (w0:=⟨w,X⟩) (N:=N) c _ _ _ _ _ _ _ w h3 hgo (GR hp hrel hle) fun e s' a' w' h' hpb _ hk=> ?_);have fin:(am7 T S fn.results.toList dH.length s').run (r',post',keep')=some (r',post',keep')->a'.defers=[]/\∃v,(results fn a'.tmps).run P w'= .ok v w'/\∃v' g',Ending.returned v= .returned v'/\More g g'/\Hp S ⟨w,X⟩ N (uO post' keep' dH) g' (fun _=>True) w'/\
    r'.Rel S (aW N (uO post' keep' dH) g') w' g' v':=by
   intro hk;obtain⟨h1,v,h2,g',h3,h4,h5⟩:=Uf hTy hlt hrf hpb h' hk;exact⟨h1,v,h2,v,g',rfl,h3,h4,h5⟩
  cases e with
  | normal=>exact fin hk
  | ret=>exact fin hk
  | exit i=>cases hk
 ·cases hct
def J9 (Z:Seat D)(l:List (aU Z))(f:FuncId){fn:Func}(cs:List Bool)(hf:Z.P.funcs[f]? =some fn)(hc:xy fn=true):aU Z:=
 ⟨f,aDn Z.T Z.S (CB l) fn cs,awi Z.mx Z.hT (fun _ _ h=>E5 h) Z.hS hf hc⟩
theorem GU {f:FuncId}{AS:vJ D}{RS:FU D}{k:Nat}{keep:List Nat}{c:AS.A->Bool}{p:AS.A->Prop}{f1 f2:AS.A->RS.X}(h1:fV P S f (oL AS RS k keep (fun a=>some (c a=true/\p a)) f1))
  (h2:fV P S f (oL AS RS k keep (fun a=>some (c a=false/\p a)) f2)):fV P S f (oL AS RS k keep (fun a=>some (p a)) (fun a=>bif c a then f1 a else f2 a)):=by
 refine⟨h1.enters,fun X N gh w args nT dH q r post kp hp hrel hct hpre=> ?_⟩;unfold oL at hct;split at hct
 ·cases hct
 rename_i a ha;injection hct with hct
 injection hct with q1 hct
 injection hct with q2 hct
 injection hct with q3 q4
 subst q1 q2 q3 q4;have hpre:p a:=hpre;have hv:∀z,(bif c a then f1 a else f2 a)=z->(fun a=>bif c a then f1 a else f2 a) a=z:=fun z h=>h
 cases hc:c a with
 | true=>
  rw[hv _ (by rw[hc])];exact h1.calls X N gh w args nT dH (some (dq (c a=true/\p a))) _ _ _ hp hrel (by unfold oL;rw[ha];rfl) ⟨hc,hpre⟩
 | false=>
  rw[hv _ (by rw[hc])];exact h2.calls X N gh w args nT dH (some (dq (c a=false/\p a))) _ _ _ hp hrel (by unfold oL;rw[ha];rfl) ⟨hc,hpre⟩
end
end Go.Vc

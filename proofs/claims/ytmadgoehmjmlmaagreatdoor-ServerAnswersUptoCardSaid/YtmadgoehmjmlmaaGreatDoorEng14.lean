/- Own engine: Vea, Veb, Vec, Veg, Veh, Vej. -/
import Derived.Test.YtmadgoehmjmlmaaGreatDoorEng13
import Derived.Lib.Bytealg
set_option linter.unusedVariables false
set_option linter.unusedSimpArgs false
namespace Go.Vc
open Go.RowKit
mutual
inductive U where
 | mk (sz:Nat) (rows:List (List UC))
 | map (ag:Bool) (kd:Nat) (z:List Pv) (kvs:List (Pv×List Pv))
inductive UC where
 | bool (b:Bool)
 | int (k:IntKind) (n:Int)
 | str (s:List UInt8)
 | dat (u:U)
 | Xa (v:Option mY)
end
def U.size:U->Nat
 | .mk sz _=>sz
 | .map _ _ _ _=>0
def U.rows:U->List (List UC)
 | .mk _ r=>r
 | .map _ _ _ _=>[]
def U.Bh:U->Option (Mp U)
 | .mk _ _=>none
 | .map ag kd z kvs=>if kvs.all (fun p=>Nat.beq p.1.kind kd)then some ⟨kd,ag,z,kvs,fun k=>(yR k kvs).isSome,fun k=>((yR k kvs).getD z).map Pv.lf,fun k vs=> .map ag kd z (Uc k vs kvs),kvs.length⟩else none
def UC.lf:UC->Lf U
 | .bool b=> .bool b
 | .int k n=> .int k n
 | .str s=> .str s
 | .dat u=> .dat u
 | .Xa v=> .Xa v
theorem UC.data (c:UC):c.lf.jI=true:=by cases c<;>rfl
def aJI (k:Nat):Lf U->Option UC
 | .bool b=>some (.bool b)
 | .val (.bool b)=>some (.bool b)
 | .int k n=>some (.int k n)
 | .str s=>some (.str s)
 | .dat u=>some (.dat u)
 | .Xa v=>some (.Xa v)
 | .val (.slice none 0 0)=>some (.dat (.mk k []))
 | _=>none
def alf:List Nat->List (Lf U)->Option (List UC)
 | [],[]=>some []
 | k::ks,x::xs=>(match aJI k x,alf ks xs with
  | some c,some cs=>some (c::cs)
  | _,_=>none)
 | _,_=>none
def aGT (r:List (List UC))(i j:Nat):Lf U:=
 match r[i]? with
 | some cs=>(match cs[j]? with
  | some c=>c.lf
  | none=> .bool false)
 | none=> .bool false
def chunk (ks:List Nat):Nat->List (Lf U)->Option (List (List UC))
 | 0,[]=>some []
 | 0,_::_=>none
 | n+1,xs=>if Nat.ble ks.length xs.length then(match alf ks (xs.take ks.length),chunk ks n (xs.drop ks.length)with
  | some r,some rs=>some (r::rs)
  | _,_=>none)else none
def acF:List UC->List Nat
 | []=>[]
 | .dat u::r=>u.size::acF r
 | _::r=>0::acF r
def aJK (sz:Nat)(r:List (List UC))(i j:Nat)(xs:List (Lf U)):Option U:=
 match r[i]? with
 | none=>none
 | some cs=>if Nat.ble (j+xs.length) sz && Nat.beq cs.length sz then(match alf (((acF cs).drop j).take xs.length) xs with
  | some ys=>some (.mk sz (r.set i (cs.take j++(ys++cs.drop (j+ys.length)))))
  | none=>none)else none
def shU (ks:TypeId->Option (List Nat))(gl:Nat->Option U)(mk:TypeId->Option (Bool×Nat×List Pv):=fun _=>none):Sh U where
 size:=U.size
 len:=fun u=>u.rows.length
 cell:=fun u i j=>aGT u.rows i j
 make:=fun e n xs=>match ks e with
  | some k=>(match chunk k n xs with
   | some r=>some (.mk k.length r)
   | none=>none)
  | none=>none
 zero:=fun e n xs=>match ks e with
  | some k=>(match alf k xs with
   | some r=>some (.mk k.length (List.replicate n r))
   | none=>none)
  | none=>none
 set:=fun u i j xs=>aJK u.size u.rows i j xs
 cat:=fun a b=>if Nat.beq a.size b.size then some (.mk a.size (a.rows++b.rows))else none
 sub:=fun u i j=>match u with
  | .mk sz rows=>some (.mk sz ((rows.take j).drop i))
  | .map _ _ _ _=>none
 OY:=fun i=>match gl i with
  | some (.mk sz rows)=>some (.mk sz rows)
  | _=>none
 run:=true
 mp:=U.Bh
 aoF:=fun t=>match mk t with
  | some (ag,kd,z)=>some (.map ag kd z [])
  | none=>none
 text:=fun _ s=>some (.mk 1 (s.map fun b=>[.int .u8 b.toNat]))
section
variable {ks:TypeId->Option (List Nat)}{gl:Nat->Option U}{mk:TypeId->Option (Bool×Nat×List Pv)}
end
end Go.Vc
namespace Go.Vc
open Go.RowKit
end Go.Vc
namespace Go.Vc
open Go.RowKit
section
variable {D:Type}{P:Program}{S:Sh D}
def Et (g:List (Sl D)->Option (Sl D)):Ct D:=fun args dE=>
 match dE,g args with
 | [],some r=>some (none,r,[],[])
 | _,_=>none
theorem akc:vI (D:=D) [] [] []=kF []:=by
 funext i;simp[vI,kF,jP,rO]
theorem ZB {f:FuncId}{g:List (Sl D)->Option (Sl D)}(hen:∀(args:Array Value) (w:World),(callFunc f args).run P w= .ok (.enter f args) w)
  (h:∀(M:Nat->Prop) (w:World) (gh:Nat->Option Value) (args:List (Sl D)) (vals:List Value) (r:Sl D),g args=some r->iy S M w gh args vals->∃v,(Calls P f vals.toArray w fun e w'=>e= .returned v/\w'=w)/\r.Rel S M w gh v):fV P S f (Et g):=by
 refine⟨hen,fun X N gh w args nZ dE p r post kp hp hrel hct hpre=> ?_⟩;unfold Et at hct;split at hct
 ·rename_i r' hr;injection hct with hct
  injection hct with q1 hct
  injection hct with q2 hct
  injection hct with q3 q4
  subst q2 q3 q4;obtain⟨v,hc,hv⟩:=h _ _ _ _ _ _ hr hrel;refine hc.mono ?_;rintro e w' ⟨rfl,rfl⟩;refine⟨v,gh,rfl,fun _ _ h=>h,?_,?_⟩
  ·rw[akc];exact hp.weaken fun _ _=>trivial
  ·rw[akc];exact hv
 ·cases hct
def RF (tB:TypeId):Ct D:=fun args dE=>
 match args,dE with
 | [.one (.lf (.ptr 0 0))], .tc t [c1]::r=>if Nat.beq t tB then some (none, .yD [],[(0, .tc t [c1])],(List.range (r.length+1)).filter fun i=> !Nat.beq i 0)else none
 | _,_=>none
theorem VL {bk bk':Bk D}{r:List (Bk D)}:vI [(0,bk')] ((List.range (r.length+1)).filter fun i=> !Nat.beq i 0) (bk::r)=upd (kF (bk::r)) 0 (some bk'):=by
 funext i;simp only[vI,jP,kF];by_cases hi:i=0
 ·subst hi;simp[upd_same]
 ·have h0:¬(Nat.beq 0 i=true):=fun e=>hi (Qa e).symm
  rw[lL h0,bP _ _ _ _ hi];dsimp only;by_cases hl:i < r.length+1
  ·have hb:(!Nat.beq i 0)=true:=by
    cases e:Nat.beq i 0 with
    | true=>exact absurd (Qa e) hi
    | false=>rfl
   rw[mi (g_.2 (R_.2 ⟨Qcu.2 hl,hb⟩))];rfl
  ·rw[lL (fun hm=>hl (Qcu.1 (R_.1 (g_.1 hm)).1))];exact(Qcf (by simpa using hl)).symm
theorem ain {f:FuncId}{tB:TypeId}(hen:∀(args:Array Value) (w:World),(callFunc f args).run P w= .ok (.enter f args) w)
  (h1:∀(b:Nat) (w:World),w.cell? ⟨b,0,none⟩=some (.pointer (some ⟨b,0,none⟩))->Calls P f #[.pointer (some ⟨b,0,none⟩)] w fun e w'=>e= .returned (.tuple #[])/\w'=w)
  (h2:∀(b:Nat) (w:World),w.cell? ⟨b,0,none⟩=some (.pointer none)->w.shape? b=some (tB,2)->w.frozen? ⟨b,0,none⟩=false->Calls P f #[.pointer (some ⟨b,0,none⟩)] w fun e w'=>e= .returned (.tuple #[])/\w'=w.setCell ⟨b,0,none⟩ (.pointer (some ⟨b,0,none⟩))):
  fV P S f (RF tB):=by
 refine⟨hen,fun X N gh w args nZ dE p r post kp hp hrel hct hpre=> ?_⟩;unfold RF at hct;split at hct
 ·rename_i t c1 rs;obtain⟨v,hg,b,vs,rfl,hm,⟨u0,hh,hu0⟩,hr⟩:=hp.dE 0 (.tc t [c1]) rfl;have hargs:args=[.pointer (some ⟨b,0,none⟩)]:=by
   match args,hrel with
   | [a],hrel=>
    obtain⟨b',hb',ha⟩:=hrel.1;rw[hg]at hb';injection hb' with hb'
    injection hb' with hb'
    injection hb' with hb'
    injection hb' with hb'
    subst hb';rw[ha]
  subst hargs;match vs,hr,hh with
  | [u1],hr,hh=>
  have hc0:w.cell? ⟨b,0,none⟩=some u0:=by rw[cell_of hh];rfl
  split at hct
  ·rename_i hte;have hte:=Qa hte;subst hte;injection hct with hct
   injection hct with q1 hct
   injection hct with q2 hct
   injection hct with q3 q4
   subst q2 q3 q4;rcases hu0 with rfl | rfl
   ·refine(h2 b w hc0 (by simp[World.shape?,hh]) (by simp[World.frozen?,hh])).mono ?_;rintro e w' ⟨rfl,rfl⟩;refine⟨_,gh,rfl,fun _ _ h=>h,?_,[],rfl,trivial⟩;rw[VL];have hset:∀n,n≠b->(w.setCell ⟨b,0,none⟩ (.pointer (some ⟨b,0,none⟩))).heap[n]? =w.heap[n]? :=fun n hn=>by
     simp only[World.setCell];rw[Qcs,lL (Ne.symm hn)]
    obtain⟨h3,_⟩:=hp.write (w':=w.setCell ⟨b,0,none⟩ (.pointer (some ⟨b,0,none⟩))) (bk':= .tc t [c1]) (l:=0) (b:=b) rfl rfl rfl hg rfl rfl rfl rfl (by simp[World.setCell]) hset
     (fun hk=>⟨b,[u1],rfl,hm,⟨.pointer (some ⟨b,0,none⟩),by simp[World.setCell,Qcs,hh], .inr rfl⟩,hr.1.keep hk (More.refl _),trivial⟩)
    exact h3.weaken fun _ _=>trivial
   ·refine(h1 b w hc0).mono ?_;rintro e w' ⟨rfl,rfl⟩;refine⟨_,gh,rfl,fun _ _ h=>h,?_,[],rfl,trivial⟩;rw[VL];obtain⟨h3,_⟩:=hp.write (w':=w') (bk':= .tc t [c1]) (l:=0) (b:=b) rfl rfl rfl hg rfl rfl rfl rfl rfl (fun _ _=>rfl)
     (fun hk=>⟨b,[u1],rfl,hm,⟨_,hh, .inr rfl⟩,hr.1.keep hk (More.refl _),trivial⟩)
    exact h3.weaken fun _ _=>trivial
  ·cases hct
 ·cases hct
end
def cU (sz:Nat):iW U (List (List UC)):=⟨1,fun r=>[.dat (.mk sz r)],fun xs=>match xs with
 | [.dat (.mk s r)]=>if Nat.beq s sz then some r else none
 | [.val (.slice none 0 0)]=>some []
 | _=>none⟩
instance aKq {ks:TypeId->Option (List Nat)} {gl:Nat->Option U} {mk:TypeId->Option (Bool×Nat×List Pv)} {sz:Nat}:bM (shU ks gl mk) (cU sz) where
 ok:=fun xs a h=>by
  simp only[cU]at h;split at h
  ·rename_i s r;split at h
   ·rename_i hs;injection h with h
    subst h;rw[Qa hs];exact⟨.inl rfl,rfl,trivial⟩
   ·cases h
  ·injection h with h
   subst h;exact⟨.inr (.inl ⟨rfl,_,rfl,rfl,rfl⟩),rfl,trivial⟩
  ·cases h
 len:=fun a=>rfl
 data:=fun a x hx=>by simp[cU]at hx;subst hx;rfl
def cV (sz:Nat):iW U (List (List UC)):=⟨1,fun r=>[.dat (.mk sz r)],fun xs=>match xs with
 | [.dat (.mk s r)]=>if Nat.beq s sz then some r else none
 | _=>none⟩
instance aKr {ks:TypeId->Option (List Nat)} {gl:Nat->Option U} {mk:TypeId->Option (Bool×Nat×List Pv)} {sz:Nat}:bM (shU ks gl mk) (cV sz) where
 ok:=fun xs a h=>by
  simp only[cV]at h;split at h
  ·rename_i s r;split at h
   ·rename_i hs;injection h with h
    subst h;rw[Qa hs];exact⟨.inl rfl,rfl,trivial⟩
   ·cases h
  ·cases h
 len:=fun a=>rfl
 data:=fun a x hx=>by simp[cV]at hx;subst hx;rfl
section
variable {D:Type}{P:Program}{S:Sh D}
end
end Go.Vc
namespace Go.Vc
open Go.RowKit
def afX:List UInt8->List UInt8->Bool
 | [],[]=>true
 | a::r,b::r'=>Nat.beq a.toNat b.toNat && afX r r'
 | _,_=>false
theorem UT:∀{a b:List UInt8},afX a b=true->a=b
 | [],[],_=>rfl
 | a::r,b::r',h=>by
  simp only[afX,jR]at h;rw[UInt8.toNat_inj.1 (Qa h.1),UT h.2]
 | [],_::_,h=>by cases h
 | _::_,[],h=>by cases h
def ikN:IntKind->Nat
 | .i8=>0 | .i16=>1 | .i32=>2 | .i64=>3 | .u8=>4 | .u16=>5 | .u32=>6 | .u64=>7
theorem atA {a b:IntKind}(h:Nat.beq (ikN a) (ikN b)=true):a=b:=by
 cases a<;>cases b<;>first | rfl | cases h
def auV:Int->Int->Bool
 | .ofNat a, .ofNat b=>Nat.beq a b
 | .negSucc a, .negSucc b=>Nat.beq a b
 | _,_=>false
theorem afa {a b:Int}(h:auV a b=true):a=b:=by
 cases a<;>cases b<;>first | cases h | rw[Qa h]
def Un:Bool->Bool->Bool
 | true,true=>true
 | false,false=>true
 | _,_=>false
theorem GH {a b:Bool}(h:Un a b=true):a=b:=by cases a<;>cases b<;>first | rfl | cases h
def amR:Pv->Pv->Bool
 | .bool a, .bool b=>Un a b
 | .int k n, .int k' n'=>Nat.beq (ikN k) (ikN k') && auV n n'
 | .str s, .str s'=>afX s s'
 | _,_=>false
theorem QJ {a b:Pv}(h:amR a b=true):a=b:=by
 cases a<;>cases b<;>first | cases h | skip
 ·rw[GH h]
 ·simp only[amR,jR]at h;rw[atA h.1,afa h.2]
 ·rw[UT h]
def Va {A:Type}(f:A->A->Bool):List A->List A->Bool
 | [],[]=>true
 | a::r,b::r'=>f a b && Va f r r'
 | _,_=>false
theorem EE {A:Type}{f:A->A->Bool}(hf:∀{a b},f a b=true->a=b):∀{a b:List A},Va f a b=true->a=b
 | [],[],_=>rfl
 | a::r,b::r',h=>by
  simp only[Va,jR]at h;rw[hf h.1,EE hf h.2]
 | [],_::_,h=>by cases h
 | _::_,[],h=>by cases h
def atd:Option mY->Option mY->Bool
 | none,none=>true
 | some ⟨t,g,xs⟩,some ⟨t',g',xs'⟩=>Nat.beq t t' && (Un g g' && Va amR xs xs')
 | _,_=>false
theorem aqC {a b:Option mY}(h:atd a b=true):a=b:=by
 cases a with
 | none=>cases b with
  | none=>rfl
  | some y=>cases h
 | some x=>
  cases b with
  | none=>cases h
  | some y=>
   cases x;cases y;simp only[atd,jR]at h;rw[Qa h.1,GH h.2.1,EE QJ h.2.2]
def aAH:List (Pv×List Pv)->List (Pv×List Pv)->Bool:=Va fun p q=>amR p.1 q.1 && Va amR p.2 q.2
theorem as7 {a b:List (Pv×List Pv)}(h:aAH a b=true):a=b:=EE (fun{p q} h=>by
 simp only[jR]at h;exact Qd1 (QJ h.1) (EE QJ h.2)) h
mutual
def uBq:U->U->Bool
 | .mk s r, .mk s' r'=>Nat.beq s s' && NQ r r'
 | .map a k z l, .map a' k' z' l'=>Un a a' && (Nat.beq k k' && (Va amR z z' && aAH l l'))
 | _,_=>false
 termination_by structural a=>a
def NQ:List (List UC)->List (List UC)->Bool
 | [],[]=>true
 | a::r,b::r'=>FZ a b && NQ r r'
 | _,_=>false
 termination_by structural a=>a
def FZ:List UC->List UC->Bool
 | [],[]=>true
 | a::r,b::r'=>ag3 a b && FZ r r'
 | _,_=>false
 termination_by structural a=>a
def ag3:UC->UC->Bool
 | .bool a, .bool b=>Un a b
 | .int k n, .int k' n'=>Nat.beq (ikN k) (ikN k') && auV n n'
 | .str s, .str s'=>afX s s'
 | .dat u, .dat u'=>uBq u u'
 | .Xa v, .Xa v'=>atd v v'
 | _,_=>false
 termination_by structural a=>a
end
mutual
theorem aC3:∀{a b:U},uBq a b=true->a=b
 | .mk s r, .mk s' r',h=>by
  simp only[uBq,jR]at h;rw[Qa h.1,Yy h.2]
 | .map a k z l, .map a' k' z' l',h=>by
  simp only[uBq,jR]at h;rw[GH h.1,Qa h.2.1,EE QJ h.2.2.1,as7 h.2.2.2]
 | .mk _ _, .map _ _ _ _,h=>by simp[uBq]at h
 | .map _ _ _ _, .mk _ _,h=>by simp[uBq]at h
theorem Yy:∀{a b:List (List UC)},NQ a b=true->a=b
 | [],[],_=>rfl
 | a::r,b::r',h=>by
  simp only[NQ,jR]at h;rw[WF h.1,Yy h.2]
 | [],_::_,h=>by simp[NQ]at h
 | _::_,[],h=>by simp[NQ]at h
theorem WF:∀{a b:List UC},FZ a b=true->a=b
 | [],[],_=>rfl
 | a::r,b::r',h=>by
  simp only[FZ,jR]at h;rw[awu h.1,WF h.2]
 | [],_::_,h=>by simp[FZ]at h
 | _::_,[],h=>by simp[FZ]at h
theorem awu:∀{a b:UC},ag3 a b=true->a=b
 | .bool a,b,h=>by
  cases b<;>simp only[ag3]at h<;>first | rw[GH h] | cases h
 | .int k n,b,h=>by
  cases b<;>simp only[ag3,jR]at h<;>first | rw[atA h.1,afa h.2] | cases h
 | .str s,b,h=>by
  cases b<;>simp only[ag3]at h<;>first | rw[UT h] | cases h
 | .dat u,b,h=>by
  cases b<;>simp only[ag3]at h<;>first | rw[aC3 h] | cases h
 | .Xa v,b,h=>by
  cases b<;>simp only[ag3]at h<;>first | rw[aqC h] | cases h
end
section
variable {P:Program}{S:Sh U}
end
section
variable {D:Type}{P:Program}{S:Sh D}
end
def BV {D:Type}(args:List (Sl D)):Option (Sl D):=match args with
 | [.one (.lf (.str s)), .one (.lf (.int .u8 c))]=>some (.one (.lf (.int .i64 (Lib.indexByte s c.toNat.toUInt8))))
 | _=>none
def aa6 {D:Type}(args:List (Sl D)):Option (Sl D):=match args with
 | [.one (.lf (.str s)), .one (.lf (.str [c]))]=>some (.one (.lf (.int .i64 (Lib.countByte s c))))
 | _=>none
end Go.Vc
namespace Go.Vc
open Go.RowKit
section
variable {D:Type}{P:Program}{S:Sh D}
theorem enters_of {f:FuncId}{fn:Func}(hf:P.funcs[f]? =some fn)(h1:fn.body.isSome=true)(h2:(fn.name== "runtime.NumGoroutine")=false)(args:Array Value)(w:World):(callFunc f args).run P w= .ok (.enter f args) w:=by
 obtain⟨c,hb⟩:=Qb7.1 h1;have h2:¬fn.name= "runtime.NumGoroutine" :=by simpa using h2
 simp[callFunc,hf,h2,hb]
theorem U_ {f:FuncId}(hen:∀(args:Array Value) (w:World),(callFunc f args).run P w= .ok (.enter f args) w)
  (h:∀(s:ByteArray) (c:Int) (w:World),Calls P f #[.string s, .int .u8 c] w fun e w'=>e= .returned (.int .i64 (Lib.indexByte s.data.toList c.toNat.toUInt8))/\w'=w):fV P S f (Et BV):=by
 refine ZB hen fun M w gh args vals r hg hrel=> ?_;unfold BV at hg;split at hg
 ·rename_i s c;injection hg with hg
  subst hg;match vals,hrel with
  | [v1,v2],hrel=>
   obtain⟨⟨h1,_⟩,h2,_⟩:=hrel;rw[h1,show v2= .int .u8 c from h2];exact⟨_,h _ _ _,rfl⟩
 ·cases hg
theorem agC {f:FuncId}(hen:∀(args:Array Value) (w:World),(callFunc f args).run P w= .ok (.enter f args) w)
  (h:∀(s:ByteArray) (c:UInt8) (w:World),Calls P f #[.string s, .string ⟨#[c]⟩] w fun e w'=>e= .returned (.int .i64 (Lib.countByte s.data.toList c))/\w'=w):fV P S f (Et aa6):=by
 refine ZB hen fun M w gh args vals r hg hrel=> ?_;unfold aa6 at hg;split at hg
 ·rename_i s c;injection hg with hg
  subst hg;match vals,hrel with
  | [v1,v2],hrel=>
   obtain⟨⟨h1,_⟩,⟨h2,_⟩,_⟩:=hrel;rw[h1,h2];exact⟨_,h _ _ _,rfl⟩
 ·cases hg
end
end Go.Vc
namespace Go.Vc
open Go.RowKit
section
variable {D:Type}
def Tr.line:{R:Type}->Tr D R->Option (Prop×R)
 | _, .ret r=>some (True,r)
 | _, .ob p k=>(match k.line with
  | some (q,r)=>some (p.p/\q,r)
  | none=>none)
 | _, .as _ k=>k.line
 | _, .br b t e=>cond b t.line e.line
 | _, .stuck _=>none
 | _, .halt _ _=>none
 | _, .unk _ _ _=>none
 | _, .loop _ _ _=>none
 | _, .cut _ _ _=>none
theorem Tr.FQ:∀{R:Type} (t:Tr D R) (q:Prop) (r:R),t.line=some (q,r)->q->t.run r=some r
 | _, .ret r,q,r',h,_=>by injection h with h;injection h with _ h;subst h;rfl
 | _, .ob p k,q,r',h,hq=>by
  simp only[Tr.line]at h;split at h
  ·rename_i q' r'' hk;injection h with h
   injection h with h1 h2
   subst h1 h2;simp only[Tr.run];rw[yx hq.1];exact Tr.FQ k q' r'' hk hq.2
  ·cases h
 | _, .as p k,q,r',h,hq=>by
  have:=Tr.FQ k q r' h hq;simp only[Tr.run];by_cases hp:p
  ·rw[zy hp];exact this
  ·rw[BH hp]
 | _, .br b t e,q,r',h,hq=>by
  cases b with
  | true=>exact Tr.FQ t q r' h hq
  | false=>exact Tr.FQ e q r' h hq
 | _, .stuck _,q,r',h,_=>by cases h
 | _, .halt _ _,q,r',h,_=>by cases h
 | _, .unk _ _ _,q,r',h,_=>by cases h
 | _, .loop _ _ _,q,r',h,_=>by cases h
 | _, .cut _ _ _,q,r',h,_=>by cases h
def ctI (T:TypeId->Option Ty)(S:Sh D)(Γ:FuncId->Option (Ct D))(fn:Func):Ct D:=fun args dE=>
 if Nat.ble args.length fn.ntmps then
  (match(Ug T S Γ fn.ntmps (fun _=>none) (Hw fn) (arR D) (St.init args dE) (aBv T S fn.results.toList dE.length)).line with
  | none=>none
  | some (q,r,post,keep)=>some (some (dq q),r,post,keep))else none
end
section
variable {D:Type}{P:Program}{S:Sh D}{T:TypeId->Option Ty}{Γ:FuncId->Option (Ct D)}{N:Nat->Prop}{w w':World}{w0:Bs}{g0:Nat->Option Value}{n:Nat}{al:Nat->Prop}{g:Nat->Option Value}{blk:Nat->Option (Bk D)}{ids:List Nat}
theorem aB0 {f:FuncId}{fn:Func}(hmx:P.follows .mixedOrders=true)(hTy:∀t ty,T t=some ty->fP P t ty)(hΓ:∀f ct,Γ f=some ct->fV P S f ct)(hS:jf S)(hf:P.funcs[f]? =some fn)(hc:yH fn=true):fV P S f (ctI T S Γ fn):=by
 simp only[yH,jR,bne_iff_ne,ne_eq]at hc;obtain⟨h1,h2,h3⟩:=hc;obtain⟨c,hb⟩:=Qb7.1 h1;have hbf:Hw fn=c:=by simp[Hw,hb]
 refine⟨fun args w=>by simp[callFunc,hf,h2,hb],fun X N g w args nZ dE p r post kp hp hrel hct hpre=> ?_⟩;unfold ctI at hct;split at hct
 ·rename_i hle;have hle:=Qa8 hle;split at hct
  ·cases hct
  rename_i q r' post' keep' hgo;injection hct with hct
  injection hct with q1 hct
  injection hct with q2 hct
  injection hct with q3 q4
  subst q1 q2 q3 q4;have hgo:=Tr.FQ _ _ _ hgo hpre;rw[hbf]at hgo h3;have hlt:∀l v,g l=some v->l < dE.length:=hp.al;have hrf:∀(l:Nat) (bk:Bk D),dE[l]? =some bk->∀r∈bk.refs,r < dE.length:=fun l bk hb r hr=>by
   obtain⟨v,hv,hok⟩:=hp.dE l bk hb;cases bk with
   | cells cs=>
    obtain⟨b,vs,t,_,_,_,hr'⟩:=hok;obtain⟨u,hu⟩:=aY.iT hr' r hr;exact hlt r u hu
   | row e d=>simp[Bk.refs]at hr
   | xw d=>simp[Bk.refs]at hr
   | iter s p=>simp[Bk.refs]at hr
   | map kvs=>simp[Bk.refs]at hr
   | tc t cs=>
    obtain⟨b,vs,_,_,_,hr'⟩:=hok;obtain⟨u,hu⟩:=aY.iT hr' r hr;exact hlt r u hu
  refine calls_of_wp hf hb (VY (J:=fun _=>none) (fun _ _ h=>by cases h) hmx hTy hΓ hS (w0:=⟨w,X⟩) (N:=N) c _ _ _ _ _ _ _ w h3 hgo (Iz hp hrel hle) fun e s' a' w' h' hpb _ hk=> ?_);have fin:(anI T S fn.results.toList dE.length s').run (r',post',keep')=some (r',post',keep')->a'.defers=[]/\∃v,(results fn a'.tmps).run P w'= .ok v w'/\∃v' g',Ending.returned v= .returned v'/\More g g'/\Hp S ⟨w,X⟩ N (vI post' keep' dE) g' (fun _=>True) w'/\
    r'.Rel S (aT N (vI post' keep' dE) g') w' g' v':=by
   intro hk;obtain⟨h1,v,h2,g',h3,h4,h5⟩:=S9 hTy hlt hrf hpb h' hk;exact⟨h1,v,h2,v,g',rfl,h3,h4,h5⟩
  cases e with
  | normal=>exact fin hk
  | ret=>exact fin hk
  | exit i=>cases hk
 ·cases hct
def aGJ (Z:Seat D)(l:List (aS Z))(f:FuncId){fn:Func}(hf:Z.P.funcs[f]? =some fn)(hc:yH fn=true):aS Z:=
 ⟨f,ctI Z.T Z.S (DL l) fn,aB0 Z.mx Z.hT (fun _ _ h=>FU h) Z.hS hf hc⟩
end
section
variable {D:Type}
def Tr.road:List Bool->{R:Type}->Tr D R->Option (Prop×R)
 | _,_, .ret r=>some (True,r)
 | cs,_, .ob p k=>(match k.road cs with
  | some (q,r)=>some (p.p/\q,r)
  | none=>none)
 | cs,_, .as _ k=>k.road cs
 | c::cs,_, .br b t e=>(match c with
  | true=>(match t.road cs with
   | some (q,r)=>some (b=true/\q,r)
   | none=>none)
  | false=>(match e.road cs with
   | some (q,r)=>some (b=false/\q,r)
   | none=>none))
 | [],_, .br _ _ _=>none
 | _,_, .stuck _=>none
 | _,_, .halt _ _=>none
 | _,_, .unk _ _ _=>none
 | _,_, .loop _ _ _=>none
 | _,_, .cut _ _ _=>none
theorem Tr.FT:∀(cs:List Bool) {R:Type} (t:Tr D R) (q:Prop) (r:R),t.road cs=some (q,r)->q->t.run r=some r
 | cs,_, .ret r,q,r',h,_=>by
  simp only[Tr.road]at h;injection h with h;injection h with _ h;subst h;rfl
 | cs,_, .ob p k,q,r',h,hq=>by
  simp only[Tr.road]at h;split at h
  ·rename_i q' r'' hk;injection h with h
   injection h with h1 h2
   subst h1 h2;simp only[Tr.run];rw[yx hq.1];exact Tr.FT cs k q' r'' hk hq.2
  ·cases h
 | cs,_, .as p k,q,r',h,hq=>by
  simp only[Tr.road]at h;have:=Tr.FT cs k q r' h hq;simp only[Tr.run];by_cases hp:p
  ·rw[zy hp];exact this
  ·rw[BH hp]
 | c::cs,_, .br b t e,q,r',h,hq=>by
  simp only[Tr.road]at h;cases c with
  | true=>
   dsimp only at h;split at h
   ·rename_i q' r'' hk;injection h with h
    injection h with h1 h2
    subst h1 h2;simp only[Tr.run,hq.1,Bo];exact Tr.FT cs t q' r'' hk hq.2
   ·cases h
  | false=>
   dsimp only at h;split at h
   ·rename_i q' r'' hk;injection h with h
    injection h with h1 h2
    subst h1 h2;simp only[Tr.run,hq.1,pO];exact Tr.FT cs e q' r'' hk hq.2
   ·cases h
 | [],_, .br _ _ _,q,r',h,_=>by simp[Tr.road]at h
 | cs,_, .stuck _,q,r',h,_=>by simp[Tr.road]at h
 | cs,_, .halt _ _,q,r',h,_=>by simp[Tr.road]at h
 | cs,_, .unk _ _ _,q,r',h,_=>by simp[Tr.road]at h
 | cs,_, .loop _ _ _,q,r',h,_=>by simp[Tr.road]at h
 | cs,_, .cut _ _ _,q,r',h,_=>by simp[Tr.road]at h
def aEI (T:TypeId->Option Ty)(S:Sh D)(Γ:FuncId->Option (Ct D))(fn:Func)(cs:List Bool):Ct D:=fun args dE=>
 if Nat.ble args.length fn.ntmps then
  (match(Ug T S Γ fn.ntmps (fun _=>none) (Hw fn) (arR D) (St.init args dE) (aBv T S fn.results.toList dE.length)).road cs with
  | none=>none
  | some (q,r,post,keep)=>some (some (dq q),r,post,keep))else none
end
section
variable {D:Type}{P:Program}{S:Sh D}{T:TypeId->Option Ty}{Γ:FuncId->Option (Ct D)}{N:Nat->Prop}{w w':World}{w0:Bs}{g0:Nat->Option Value}{n:Nat}{al:Nat->Prop}{g:Nat->Option Value}{blk:Nat->Option (Bk D)}{ids:List Nat}
theorem azB {f:FuncId}{fn:Func}{cs:List Bool}(hmx:P.follows .mixedOrders=true)(hTy:∀t ty,T t=some ty->fP P t ty)(hΓ:∀f ct,Γ f=some ct->fV P S f ct)(hS:jf S)(hf:P.funcs[f]? =some fn)(hc:yH fn=true):fV P S f (aEI T S Γ fn cs):=by
 simp only[yH,jR,bne_iff_ne,ne_eq]at hc;obtain⟨h1,h2,h3⟩:=hc;obtain⟨c,hb⟩:=Qb7.1 h1;have hbf:Hw fn=c:=by simp[Hw,hb]
 refine⟨fun args w=>by simp[callFunc,hf,h2,hb],fun X N g w args nZ dE p r post kp hp hrel hct hpre=> ?_⟩;unfold aEI at hct;split at hct
 ·rename_i hle;have hle:=Qa8 hle;split at hct
  ·cases hct
  rename_i q r' post' keep' hgo;injection hct with hct
  injection hct with q1 hct
  injection hct with q2 hct
  injection hct with q3 q4
  subst q1 q2 q3 q4;have hgo:=Tr.FT cs _ _ _ hgo hpre;rw[hbf]at hgo h3;have hlt:∀l v,g l=some v->l < dE.length:=hp.al;have hrf:∀(l:Nat) (bk:Bk D),dE[l]? =some bk->∀r∈bk.refs,r < dE.length:=fun l bk hb r hr=>by
   obtain⟨v,hv,hok⟩:=hp.dE l bk hb;cases bk with
   | cells cs=>
    obtain⟨b,vs,t,_,_,_,hr'⟩:=hok;obtain⟨u,hu⟩:=aY.iT hr' r hr;exact hlt r u hu
   | row e d=>simp[Bk.refs]at hr
   | xw d=>simp[Bk.refs]at hr
   | iter s p=>simp[Bk.refs]at hr
   | map kvs=>simp[Bk.refs]at hr
   | tc t cs=>
    obtain⟨b,vs,_,_,_,hr'⟩:=hok;obtain⟨u,hu⟩:=aY.iT hr' r hr;exact hlt r u hu
  refine calls_of_wp hf hb (VY (J:=fun _=>none) (fun _ _ h=>by cases h) hmx hTy hΓ hS (w0:=⟨w,X⟩) (N:=N) c _ _ _ _ _ _ _ w h3 hgo (Iz hp hrel hle) fun e s' a' w' h' hpb _ hk=> ?_);have fin:(anI T S fn.results.toList dE.length s').run (r',post',keep')=some (r',post',keep')->a'.defers=[]/\∃v,(results fn a'.tmps).run P w'= .ok v w'/\∃v' g',Ending.returned v= .returned v'/\More g g'/\Hp S ⟨w,X⟩ N (vI post' keep' dE) g' (fun _=>True) w'/\
    r'.Rel S (aT N (vI post' keep' dE) g') w' g' v':=by
   intro hk;obtain⟨h1,v,h2,g',h3,h4,h5⟩:=S9 hTy hlt hrf hpb h' hk;exact⟨h1,v,h2,v,g',rfl,h3,h4,h5⟩
  cases e with
  | normal=>exact fin hk
  | ret=>exact fin hk
  | exit i=>cases hk
 ·cases hct
def JW (Z:Seat D)(l:List (aS Z))(f:FuncId){fn:Func}(cs:List Bool)(hf:Z.P.funcs[f]? =some fn)(hc:yH fn=true):aS Z:=
 ⟨f,aEI Z.T Z.S (DL l) fn cs,azB Z.mx Z.hT (fun _ _ h=>FU h) Z.hS hf hc⟩
theorem I_ {f:FuncId}{AS:wM D}{RS:Ho D}{k:Nat}{keep:List Nat}{c:AS.A->Bool}{p:AS.A->Prop}{f1 f2:AS.A->RS.X}(h1:fV P S f (oP AS RS k keep (fun a=>some (c a=true/\p a)) f1))
  (h2:fV P S f (oP AS RS k keep (fun a=>some (c a=false/\p a)) f2)):fV P S f (oP AS RS k keep (fun a=>some (p a)) (fun a=>bif c a then f1 a else f2 a)):=by
 refine⟨h1.enters,fun X N gh w args nZ dE q r post kp hp hrel hct hpre=> ?_⟩;unfold oP at hct;split at hct
 ·cases hct
 rename_i a ha;injection hct with hct
 injection hct with q1 hct
 injection hct with q2 hct
 injection hct with q3 q4
 subst q1 q2 q3 q4;have hpre:p a:=hpre;have hv:∀z,(bif c a then f1 a else f2 a)=z->(fun a=>bif c a then f1 a else f2 a) a=z:=fun z h=>h
 cases hc:c a with
 | true=>
  rw[hv _ (by rw[hc])];exact h1.calls X N gh w args nZ dE (some (dq (c a=true/\p a))) _ _ _ hp hrel (by unfold oP;rw[ha];rfl) ⟨hc,hpre⟩
 | false=>
  rw[hv _ (by rw[hc])];exact h2.calls X N gh w args nZ dE (some (dq (c a=false/\p a))) _ _ _ hp hrel (by unfold oP;rw[ha];rfl) ⟨hc,hpre⟩
end
end Go.Vc

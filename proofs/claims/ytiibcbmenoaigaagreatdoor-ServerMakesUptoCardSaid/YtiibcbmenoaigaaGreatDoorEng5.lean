/- Own engine: Vdd. -/
import Derived.Test.YtiibcbmenoaigaaGreatDoorEng4
import Derived.MapFrom
import Derived.Lib.AppendStr
import Derived.Lib.UnsafeStr
import Derived.Laws.BytesString
namespace Go.Vc
open Go.RowKit
set_option linter.unusedVariables false
set_option linter.unusedSimpArgs false
section
variable {D:Type}
def arrC (T:TypeId->Option Ty)(t:TypeId):Option (TypeId×Nat×Nat):=
 match T t with
 | none=>none
 | some ty=>if ty.lit then arrAny T t else none
def xAddrC (T:TypeId->Option Ty)(t:TypeId)(x i:Sl D):Option (Out D):=
 match arrC T t with
 | none=>none
 | some (e,n,sz)=>(match x,i with
  | .one (.lf (.ptr l o)), .one (.lf (.int _ m))=>lfO (some (dp (0<=m/\m < n))) (.ptr l (o+m.toNat*sz))
  | _,_=>none)
def xIndexC (T:TypeId->Option Ty)(t:TypeId)(x i:Sl D):Option (Out D):=
 match arrC T t with
 | none=>none
 | some (e,n,sz)=>(match T e with
  | none=>none
  | some te=>(match x,i with
   | .one (.agg cs), .one (.lf (.int _ m))=>
    if Nat.beq cs.length (n*sz)then(if te.agg then some ⟨some (dp (0<=m/\m < n)), .one (.agg ((cs.drop (m.toNat*sz)).take sz)),[]⟩
    else(match cs[m.toNat*sz]? with
     | some y=>lfO (some (dp (0<=m/\m < n))) y
     | none=>none))else none
   | _,_=>none))
def xMakeMap (S:Sh D)(t:TypeId)(fr:Nat):Option (Out D):=
 match S.mnew t with
 | some d=>some ⟨none, .one (.lf (.own fr)),[(fr,some (.map d))]⟩
 | none=>none
def pvOf:Sl D->Option Pv
 | .one (.lf x)=>x.pv
 | _=>none
def mapOf (S:Sh D)(blk:Nat->Option (Bk D))(t:TypeId):Sl D->Option (Mp D)
 | .one (.lf (.own l))=>(match blk l with
  | some (.map d)=>S.mp d
  | some (.ice d)=>S.mp d
  | _=>none)
 | .one (.lf (.dat d))=>S.mp d
 | .one (.lf (.val (.map none)))=>(match S.mnew t with
  | some d=>S.mp d
  | none=>none)
 | _=>none
def pvIs:Pv->Value->Bool
 | .bool a, .bool b=>a==b
 | .int k a, .int k' b=>kEq k k' && a==b
 | .str s, .string u=>s.isEmpty && Nat.beq u.data.size 0
 | _,_=>false
def pvsAre:List Pv->List Value->Bool
 | [],[]=>true
 | p::ps,v::vs=>pvIs p v && pvsAre ps vs
 | _,_=>false
def kindsEq:List Pv->List Pv->Bool
 | [],[]=>true
 | p::ps,q::qs=>Nat.beq p.kind q.kind && kindsEq ps qs
 | _,_=>false
def xLookup (T:TypeId->Option Ty)(S:Sh D)(blk:Nat->Option (Bk D))(t:TypeId)(x i:Sl D)(ok:Bool):Option (Out D):=
 match T t with
 | none=>none
 | some ty=>(match ty.mp with
  | none=>none
  | some (kt,vt)=>(match T kt,T vt with
   | some tk,some tv=>(match mapOf S blk t x,pvOf i with
    | some m,some k=>
     if Nat.beq ty.kind 0 && Nat.beq k.kind tk.kind && (Nat.beq m.kind tk.kind && (m.agg==tv.zag && pvsAre m.zero tv.zero))then
      (match m.agg,m.get k with
      | true,ys=>if ok then some ⟨none, .tup [.agg ys, .lf (.bool (m.has k))],[]⟩else some ⟨none, .one (.agg ys),[]⟩
      | false,[y]=>if ok then some ⟨none, .tup [.lf y, .lf (.bool (m.has k))],[]⟩else lfO none y
      | _,_=>none)else none
    | _,_=>none)
   | _,_=>none))
def pvsOf (agg:Bool):Sl D->Option (List Pv)
 | .one (.lf x)=>if agg then none else(match x.pv with
  | some p=>some [p]
  | none=>none)
 | .one (.agg xs)=>if agg then pvs xs else none
 | _=>none
def xMapPut (T:TypeId->Option Ty)(S:Sh D)(blk:Nat->Option (Bk D))(t:TypeId)(x i v:Sl D):Option (Out D):=
 match T t with
 | none=>none
 | some ty=>(match ty.mp with
  | none=>none
  | some (kt,vt)=>(match T kt with
   | some tk=>(match x,pvOf i with
    | .one (.lf (.own l)),some k=>(match blk l with
     | some (.map d)=>(match S.mp d with
      | some m=>(match pvsOf m.agg v with
       | some u=>if Nat.beq ty.kind 0 && Nat.beq k.kind tk.kind && (Nat.beq m.kind tk.kind && kindsEq u m.zero)then some ⟨none, .one (.lf .any),[(l,some (.map (m.put k u)))]⟩else none
       | none=>none)
      | none=>none)
     | _=>none)
    | _,_=>none)
   | _=>none))
def isU8:Lf D->Bool
 | .int .u8 _=>true
 | _=>false
def isU8R:Lf D->Bool
 | .int .u8 k=>decide (0<=k) && decide (k < 256)
 | _=>false
def allN (f:Nat->Bool):Nat->Bool
 | 0=>true
 | n+1=>f n && allN f n
def u8Of:Lf D->UInt8
 | .int .u8 n=>UInt8.ofNat n.toNat
 | _=>0
def bytesAll (S:Sh D)(d:D):Nat->Bool:=allN fun i=>isU8 (S.cell d i 0)
def bytesR (S:Sh D)(d:D):Nat->Bool:=allN fun i=>isU8R (S.cell d i 0)
def bytesOf (S:Sh D)(d:D):List UInt8:=(List.range (S.len d)).map fun i=>u8Of (S.cell d i 0)
def xText (T:TypeId->Option Ty)(S:Sh D)(blk:Nat->Option (Bk D))(src dst:TypeId)(x:Sl D):Option (Out D):=
 match T src,T dst with
 | some ts,some td=>(match ts.elem with
  | none=>none
  | some e=>(match T e with
   | none=>none
   | some te=>if Nat.beq td.kind 3 && (Nat.beq te.kind 24 && Nat.beq te.size 1)then(match x with
    | .one (.lf (.val (.slice none 0 0)))=>lfO none (.str [])
    | x=>(match datOf blk x with
     | some d=>if Nat.beq (S.size d) 1 then lfO (some (dp (bytesAll S d (S.len d)=true))) (.str (bytesOf S d))else none
     | none=>none))else none))
 | _,_=>none
def Lf.dl:Lf D->Option (Dl D)
 | .bool b=>some (.bool b)
 | .val (.bool b)=>some (.bool b)
 | .int k n=>some (.int k n)
 | .str s=>some (.str s)
 | .dat d=>some (.dat d)
 | .val (.slice none 0 0)=>some .nils
 | _=>none
def dls:List (Lf D)->Option (List (Dl D))
 | []=>some []
 | x::xs=>(match x.dl,dls xs with
  | some p,some ps=>some (p::ps)
  | _,_=>none)
def Dl.lf:Dl D->Lf D
 | .bool b=> .bool b
 | .int k n=> .int k n
 | .str s=> .str s
 | .dat d=> .dat d
 | .nils=> .val (.slice none 0 0)
def slIn (ag:Bool)(xs:List (Dl D)):Option (Sl D):=
 match ag,xs with
 | false,[x]=>some (.one (.lf x.lf))
 | true,xs=>some (.one (.agg (xs.map Dl.lf)))
 | _,_=>none
def dlsOf:Sl D->Option (Bool×List (Dl D))
 | .one (.lf x)=>(match x.dl with
  | some p=>some (false,[p])
  | none=>none)
 | .one (.agg xs)=>(match dls xs with
  | some ps=>some (true,ps)
  | none=>none)
 | _=>none
def xIfd (T:TypeId->Option Ty)(t:TypeId)(x:Sl D):Option (Out D):=
 match T t with
 | none=>none
 | some ty=>if Nat.beq ty.kind 0 then none else(match dlsOf x with
  | some (ag,ps)=>lfO none (.xt (.ifd t ag ps))
  | none=>none)
def zeroSl (ty:Ty):Option (Sv D):=
 if ty.agg then(if ty.zag then some (.agg (ty.zero.map ofLf))else none)else(match ty.zero with
  | [z]=>if ty.zag then none else some (.lf (ofLf z))
  | _=>none)
def xAssertD (T:TypeId->Option Ty)(t:TypeId)(x:Sl D)(ok:Bool):Option (Out D):=
 match T t with
 | none=>none
 | some ty=>if Nat.beq ty.kind 0 then none else(match x with
  | .one (.lf (.xt (.ifd t' ag ps)))=>(match slIn ag ps with
   | some (.one u)=>(match ok with
    | true=>if Nat.beq t' t then some ⟨none, .tup [u, .lf (.val (.bool true))],[]⟩else(match zeroSl ty with
     | some z=>some ⟨none, .tup [z, .lf (.val (.bool false))],[]⟩
     | none=>none)
    | false=>if Nat.beq t' t then some ⟨none, .one u,[]⟩else none)
   | _=>none)
  | _=>none)
def xClo (f:FuncId)(x:Sl D):Option (Out D):=
 match dlsOf x with
 | some (ag,ps)=>lfO none (.xt (.clo f ag ps))
 | none=>none
def xCallC (Γ:FuncId->Option (Ct D))(blk:Nat->Option (Bk D))(fr:Nat)(f:Sl D)(args:List (Sl D)):Option (Out D):=
 match f with
 | .one (.lf (.xt (.clo f ag ps)))=>(match slIn ag ps with
  | some x=>xCall Γ f blk (x::args) fr
  | none=>none)
 | _=>none
def xSliceC (T:TypeId->Option Ty)(S:Sh D)(blk:Nat->Option (Bk D))(t:TypeId)(x:Sl D)(lo hi:Option (Sl D)):Option (Out D):=
 match T t with
 | none=>none
 | some ty=>if ty.lit then(match bnd 0 lo,ty.elem with
  | some l,some e=>(match T e with
   | none=>none
   | some te=>(match x with
    | .one (.lf (.own q))=>(match blk q with
     | some (.row _ d)=>if Nat.beq te.size (S.size d) && Nat.blt 0 te.size then(match bnd (S.len d) hi with
      | some h=>(match S.sub d l.toNat h.toNat with
       | some d'=>some ⟨some (dp (0<=l/\l<=h/\h<=S.len d)), .one (.lf (.dat d')),[(q,some (.ice d))]⟩
       | none=>none)
      | none=>none)else none
     | some (.ice d)=>if Nat.beq te.size (S.size d) && Nat.blt 0 te.size then(match bnd (S.len d) hi with
      | some h=>(match S.sub d l.toNat h.toNat with
       | some d'=>some ⟨some (dp (0<=l/\l<=h/\h<=S.len d)), .one (.lf (.dat d')),[]⟩
       | none=>none)
      | none=>none)else none
     | _=>none)
    | _=>none))
  | _,_=>none)else none
def xAppendN (T:TypeId->Option Ty)(S:Sh D)(blk:Nat->Option (Bk D))(ts:Array TypeId)(x y:Sl D):Option (Out D):=
 match ts.toList,y with
 | [t,t'], .one (.lf (.val (.slice none 0 0)))=>if Nat.beq t t' then(match T t with
  | none=>none
  | some ty=>(match ty.elem with
   | none=>none
   | some e=>(match T e with
    | none=>none
    | some te=>(match x with
     | .one (.lf (.val (.slice none 0 0)))=>lfO none (.val (.slice none 0 0))
     | .one (.lf (.dat d))=>if Nat.blt 0 (S.size d)then lfO none (.dat d)else none
     | .one (.lf (.own l))=>(match blk l with
      | some (.row _ _)=>lfO none (.own l)
      | _=>none)
     | _=>none))))else none
 | _,_=>none
def xNilC (T:TypeId->Option Ty)(S:Sh D)(op:BinOp)(t:TypeId)(x y:Sl D):Option (Out D):=
 match T t with
 | none=>none
 | some ty=>if ty.lit then(match ty.elem,x,y with
  | some _, .one (.lf (.dat d)), .one (.lf (.val (.slice none 0 0)))=>if Nat.blt 0 (S.len d) && Nat.blt 0 (S.size d)then(match op with
   | .eql=>lfO none (.val (.bool false))
   | .neq=>lfO none (.val (.bool true))
   | _=>none)else none
  | _,_,_=>none)else none
def isBld (ty:Ty):Bool:=
 match ty.zero with
 | [.pointer none, .slice none 0 0]=>ty.lit && ty.agg && Nat.beq ty.kind 5
 | _=>false
def xAllocT (T:TypeId->Option Ty)(fr:Nat)(t:TypeId):Option (Out D):=
 match T t with
 | none=>none
 | some ty=>if isBld ty then some ⟨none, .one (.lf (.ptr fr 0)),[(fr,some (.tc t [.val (.slice none 0 0)]))]⟩else none
def xLoadT (T:TypeId->Option Ty)(blk:Nat->Option (Bk D))(t:TypeId)(x:Sl D):Option (Out D):=
 match T t with
 | none=>none
 | some ty=>(match x with
  | .one (.lf (.ptr l o))=>(match blk l with
   | some (.tc _ cs)=>if ty.agg then none else(match o with
    | 0=>none
    | o+1=>(match cs[o]? with
     | some y=>lfO none y
     | none=>none))
   | _=>none)
  | _=>none)
def xStoreT (T:TypeId->Option Ty)(blk:Nat->Option (Bk D))(t:TypeId)(x y:Sl D):Option (Out D):=
 match T t,x,y with
 | some ty, .one (.lf (.ptr l o)), .one (.lf u)=>(match blk l with
  | some (.tc t' cs)=>(match o with
   | 0=>none
   | o+1=>if Nat.beq ty.size 1 && (!ty.agg && (Nat.blt o cs.length && u.storable))then some ⟨none, .one (.lf .any),[(l,some (.tc t' (putAt cs o [u])))]⟩else none)
  | _=>none)
 | _,_,_=>none
def isZu8 (te:Ty):Bool:=
 match te.zero with
 | [.int .u8 0]=> !te.zag
 | _=>false
def xAppendS (T:TypeId->Option Ty)(S:Sh D)(blk:Nat->Option (Bk D))(fr:Nat)(ts:Array TypeId)(x y:Sl D):Option (Out D):=
 match ts.toList,y with
 | [t,t'], .one (.lf (.str s))=>(match T t,T t' with
  | some ty,some ty'=>(match ty.elem with
   | none=>none
   | some e=>(match T e with
    | none=>none
    | some te=>if isZu8 te && (Nat.beq te.size 1 && (Nat.beq te.bytes 1 && Nat.beq ty'.kind 3))then(match S.text e s with
     | none=>none
     | some d2=>if Nat.beq (S.size d2) 1 then(match x with
      | .one (.lf (.val (.slice none 0 0)))=>some ⟨some (dp (roomP s.length 1)), .one (.lf (.own fr)),[(fr,some (.row e d2))]⟩
      | .one (.lf (.own l))=>(match blk l with
       | some (.row e' d1)=>if Nat.beq e e' && Nat.beq (S.size d1) 1 then(match S.cat d1 d2 with
        | some d=>some ⟨some (dp (roomP (S.len d1+s.length) 1)), .one (.lf (.own fr)),[(l,none),(fr,some (.row e d))]⟩
        | none=>none)else none
       | _=>none)
      | _=>none)else none)else none))
  | _,_=>none)
 | _,_=>none
def xSliceData (S:Sh D)(blk:Nat->Option (Bk D))(x:Sl D):Option (Out D):=
 match x with
 | .one (.lf (.own l))=>(match blk l with
  | some (.row _ d)=>if Nat.beq (S.size d) 1 then lfO (some (dp (0 < S.len d))) (.opt l 0 0 1)else none
  | _=>none)
 | .one (.lf (.val (.slice none 0 0)))=>lfO none (.val (.pointer none))
 | _=>none
def ptrTo (T:TypeId->Option Ty)(ts:Array TypeId)(e:TypeId):Bool:=
 match ts.toList with
 | [pt,_]=>(match T pt,T e with
  | some ty,some te=>Nat.beq ty.kind 6 && (Nat.beq te.size 1 && (match ty.mp with
   | some (e',_)=>Nat.beq e e'
   | none=>false))
  | _,_=>false)
 | _=>false
def xUnsafeStr (T:TypeId->Option Ty)(S:Sh D)(blk:Nat->Option (Bk D))(ts:Array TypeId)(x y:Sl D):Option (Out D):=
 match x,y with
 | .one (.lf (.opt l 0 0 1)), .one (.lf (.int .i64 n))=>(match blk l with
  | some (.row e d)=>if ptrTo T ts e && Nat.beq (S.size d) 1 then some ⟨some (dp (n=S.len d/\0 < n/\bytesR S d (S.len d)=true)), .one (.lf (.str (bytesOf S d))),[(l,none)]⟩else none
  | _=>none)
 | .one (.lf (.val (.pointer none))), .one (.lf (.int .i64 n))=>(match ts.toList with
  | [_,_]=>lfO (some (dp (n=0))) (.str [])
  | _=>none)
 | _,_=>none
def xNew (T:TypeId->Option Ty)(S:Sh D)(Γ:FuncId->Option (Ct D))(slot:Nat->Sl D)(blk:Nat->Option (Bk D))(fr:Nat)(op:Op):Option (Out D):=
 match op with
 | .alloc t=>xAllocT T fr t
 | .load t x=>xLoadT T blk t (opnd slot x)
 | .store t x y=>xStoreT T blk t (opnd slot x) (opnd slot y)
 | .indexAddr t x i=>xAddrC T t (opnd slot x) (opnd slot i)
 | .index t x i=>xIndexC T t (opnd slot x) (opnd slot i)
 | .makeMap t none=>xMakeMap S t fr
 | .slice t x lo hi none=>xSliceC T S blk t (opnd slot x) (lo.map (opnd slot)) (hi.map (opnd slot))
 | .lookup t x i ok=>xLookup T S blk t (opnd slot x) (opnd slot i) ok
 | .mapUpdate t x i v=>xMapPut T S blk t (opnd slot x) (opnd slot i) (opnd slot v)
 | .insert t x i v=>xMapPut T S blk t (opnd slot x) (opnd slot i) (opnd slot v)
 | .convert a b x=>xText T S blk a b (opnd slot x)
 | .makeInterface t x=>xIfd T t (opnd slot x)
 | .typeAssert x _ t ok=>xAssertD T t (opnd slot x) ok
 | .binOp op t x y _=>xNilC T S op t (opnd slot x) (opnd slot y)
 | .makeFunc (.func f) first caps=>(match first.toList,caps.toList with
  | [x],[]=>xClo f (opnd slot x)
  | _,_=>none)
 | .nilCheck x=>(match opnd slot x with
  | .one (.lf (.xt e))=>(match e with
   | .clo f ag ps=>lfO none (.xt (.clo f ag ps))
   | _=>none)
  | _=>none)
 | .call c=>(match c.callee with
  | .value f=>xCallC Γ blk fr (opnd slot f) (c.args.toList.map (opnd slot))
  | .builtin .append=>(match c.args.toList with
   | [x,y]=>(match xAppendN T S blk c.argTypes (opnd slot x) (opnd slot y)with
    | some out=>some out
    | none=>xAppendS T S blk fr c.argTypes (opnd slot x) (opnd slot y))
   | _=>none)
  | .builtin .unsafeSliceData=>(match c.args.toList with
   | [x]=>xSliceData S blk (opnd slot x)
   | _=>none)
  | .builtin .unsafeString=>(match c.args.toList with
   | [x,y]=>xUnsafeStr T S blk c.argTypes (opnd slot x) (opnd slot y)
   | _=>none)
  | _=>none)
 | _=>none
def coolable2:Op->Bool
 | .makeInterface _ _=>true
 | .makeFunc _ _ _=>true
 | _=>false
def xCool2 (T:TypeId->Option Ty)(S:Sh D)(Γ:FuncId->Option (Ct D))(slot:Nat->Sl D)(blk:Nat->Option (Bk D))(fr:Nat)(op:Op):Option (Out D):=
 let ls:=coolIds slot op
 if coolable2 op && ls.all (fun l=>isRow (blk l))then
  (match xNew T S Γ (coolS (opTmps op.operands.toList) slot blk) (updL blk (ls.filterMap (iceOf blk))) fr op with
  | some out=>some ⟨out.pre,out.val,ls.filterMap (iceOf blk)++out.blks⟩
  | none=>none)
 else none
def xOpR (T:TypeId->Option Ty)(S:Sh D)(Γ:FuncId->Option (Ct D))(slot:Nat->Sl D)(blk:Nat->Option (Bk D))(fr:Nat)(op:Op):Option (Out D):=
 match xNew T S Γ slot blk fr op with
 | some out=>some out
 | none=>(match xCool2 T S Γ slot blk fr op with
  | some out=>some out
  | none=>xOpQ T S Γ slot blk fr op)
def Does (T:TypeId->Option Ty)(S:Sh D)(Γ:FuncId->Option (Ct D))(slot:Nat->Sl D)(blk:Nat->Option (Bk D))(fr:Nat)(op:Op)(out:Out D):Prop:=
 xOpR T S Γ slot blk fr op=some out\/∃b o1 o2,xNext slot blk op=some (b,o1,o2)/\out=bif b then o1 else o2
end
section
variable {D:Type}{P:Program}{S:Sh D}{T:TypeId->Option Ty}{Γ:FuncId->Option (Ct D)}{M M' N:Nat->Prop}{w w':World}{w0:Bs}{g g':Nat->Option Value}{blk blk':Nat->Option (Bk D)}{al:Nat->Prop}
 {a:Act} {o:Oper} {K:Act->World->Prop} {Q:Exit->Act->World->Prop} {slot slot':Nat->Sl D} {out:Out D} {fr:Nat}
theorem arrC_spec (hTy:∀t ty,T t=some ty->TyOk P t ty){t e:TypeId}{n sz:Nat}(h:arrC T t=some (e,n,sz)):∃ty te,T t=some ty/\T e=some te/\te.size=sz/\0 < sz/\ty.size=n*sz/\ty.agg=true/\P.underlying t=some (.array n e)/\TyOk P t ty/\TyOk P e te:=by
 unfold arrC at h
 split at h
 ·cases h
 ·split at h
  ·exact arrAny_spec hTy h
  ·cases h
theorem sound_addrC {t:TypeId}{x ix:Operand}(ho:o.op= .indexAddr t x ix)(hTy:∀t ty,T t=some ty->TyOk P t ty)(h:Hp S w0 N blk g al w)(hx:(opnd slot x).Rel S (Mset N blk g) w g (a.eval x))
  (hi:(opnd slot ix).Rel S (Mset N blk g) w g (a.eval ix)) (hout:xAddrC T t (opnd slot x) (opnd slot ix)=some out) (hp:preD out.pre) (hK:Post S w0 N blk g al w fr out o.dst a K):o.wp P a w K Q:=by
 unfold xAddrC at hout
 split at hout
 ·cases hout
 ·rename_i e n sz harr
  obtain⟨ty,te,hty,hte,hsz,h0,htsz,hag,hund,hok,hoke⟩:=arrC_spec hTy harr
  have htys:=ty_size hoke w
  split at hout
  ·rename_i l off k m hex hei
   rw[hex]at hx
   rw[hei]at hi
   simp only[Sl.Rel,Sv.Rel,Lf.Rel]at hi
   obtain⟨b,hg,hv⟩:=hx
   injection hout with hout
   subst hout
   obtain⟨p1,p2⟩:=hp
   refine wp_same (v:= .pointer (some ⟨b,off+m.toNat*sz,none⟩)) ?_ h hK rfl ⟨b,hg,rfl⟩
   simp[execOp,ho,Instr.indexAt,Instr.sureAddr,hi,asIntOf,run_underlying hund,hv,p1,p2,htys,hsz,add_none]
  ·cases hout
theorem LfsRel.at {g:Nat->Option Value}{xs:List (Lf D)}{vs:List Value}(h:LfsRel S M w g xs vs){i:Nat}{x:Lf D}(hx:xs[i]? =some x):∃u,vs[i]? =some u/\x.Rel S M w g u:=LfsRel.get i h hx
theorem LfsRel.drop' {g:Nat->Option Value}:∀(n:Nat) {xs:List (Lf D)} {vs:List Value},LfsRel S M w g xs vs->LfsRel S M w g (xs.drop n) (vs.drop n)
 | 0,_,_,h=>h
 | n+1,[],[],_=>trivial
 | n+1,x::xs,v::vs,h=>LfsRel.drop' n h.2
theorem LfsRel.take' {g:Nat->Option Value}:∀(n:Nat) {xs:List (Lf D)} {vs:List Value},LfsRel S M w g xs vs->LfsRel S M w g (xs.take n) (vs.take n)
 | 0,_,_,h=>trivial
 | n+1,[],[],_=>trivial
 | n+1,x::xs,v::vs,h=>⟨h.1,LfsRel.take' n h.2⟩
theorem sound_indexC {t:TypeId}{x ix:Operand}(ho:o.op= .index t x ix)(hTy:∀t ty,T t=some ty->TyOk P t ty)(h:Hp S w0 N blk g al w)(hx:(opnd slot x).Rel S (Mset N blk g) w g (a.eval x))
  (hi:(opnd slot ix).Rel S (Mset N blk g) w g (a.eval ix)) (hout:xIndexC T t (opnd slot x) (opnd slot ix)=some out) (hp:preD out.pre) (hK:Post S w0 N blk g al w fr out o.dst a K):o.wp P a w K Q:=by
 unfold xIndexC at hout
 split at hout
 ·cases hout
 ·rename_i e n sz harr
  obtain⟨ty,te,hty,hte,hsz,h0,htsz,hag,hund,hok,hoke⟩:=arrC_spec hTy harr
  rw[hte]at hout
  dsimp only at hout
  have hsze:=ty_size hoke w
  have hagge:=ty_isAgg hoke w
  split at hout
  ·rename_i cs k m hex hei
   rw[hex]at hx
   rw[hei]at hi
   simp only[Sl.Rel,Sv.Rel,Lf.Rel]at hi
   obtain⟨vs,hv,hr⟩:=hx
   split at hout
   rotate_left
   ·cases hout
   split at hout
   ·rename_i hea
    injection hout with hout
    subst hout
    obtain⟨p1,p2⟩:=hp
    refine wp_same (v:= .agg ((vs.drop (m.toNat*sz)).take sz).toArray) ?_ h hK rfl ⟨_,rfl,(hr.drop' _).take' _⟩
    have he:vs.toArray.extract (m.toNat*sz) (m.toNat*sz+sz)=((vs.drop (m.toNat*sz)).take sz).toArray:=by
     apply Array.toList_inj.1
     simp[List.extract_eq_take_drop]
    simp[execOp,ho,Instr.index,hi,asIntOf,run_underlying hund,hv,p1,p2,part,hagge,hea,hsze,hsz,he]
   ·rename_i hea
    split at hout
    ·rename_i y hy
     injection hout with hout
     subst hout
     obtain⟨p1,p2⟩:=hp
     obtain⟨u,hu,hyr⟩:=hr.at hy
     refine wp_same (v:=u) ?_ h hK rfl hyr
     simp[execOp,ho,Instr.index,hi,asIntOf,run_underlying hund,hv,p1,p2,part,hagge,hea,hsze,hsz,hu]
    ·cases hout
  ·cases hout
theorem sound_makeMap {t:TypeId}(hS:ShOk S)(ho:o.op= .makeMap t none)(h:Hp S w0 N blk g al w)(hfr:∀n,fr<=n->n < fr+64->¬al n)(hout:xMakeMap S t fr=some out)(hK:Post S w0 N blk g al w fr out o.dst a K):o.wp P a w K Q:=by
 unfold xMakeMap at hout
 split at hout
 ·rename_i d hd
  injection hout with hout
  subst hout
  obtain⟨m,hm,hk⟩:=hS.mpNew _ _ hd
  have hrun:(execOp a.eval o).run P w= .ok (.value (.map (some w.heap.size))) (w.alloc (.map #[] 0)):=by
   simp[execOp,ho,Instr.makeMap,newObj,Sem.run]
  obtain⟨h1,h2,h3⟩:=h.add (l:=fr) (bk:= .map d) (v:= .map (some w.heap.size)) ((Below.refl w.heap.size w).alloc (Nat.le_refl _) (.map #[] 0)) (hfr fr (Nat.le_refl _) (by omega)) (fun b hb=>by simp[blkOf]at hb;omega)
   (fun M' hk' _=>⟨m,w.heap.size,#[],0,hm,by rw[hk];exact fun p hp=>by simp at hp,rfl, .inl h.below.size,heap_alloc_new w _,by rw[hk];rfl⟩)
  exact wp_val hrun (hK _ _ _ h3 h2 (h1.weaken al64) (upd_same _ _ _))
 ·cases hout
theorem Pv.beq_eq {p q:Pv}(h:Pv.beq p q=true):p=q:=by
 cases p<;>cases q<;>simp_all [Pv.beq,kEq]
theorem pv_key {t:TypeId}{ty:Ty}{p:Pv}{d:TypeDesc}(hd:kindOf d=ty.kind)(hk:Nat.beq p.kind ty.kind=true):MapKept.IsKey d p.val:=by
 have hk:=Nat.eq_of_beq_eq_true hk
 rw[<-hd]at hk
 cases p with
 | bool b=>cases d<;>simp[Pv.kind,kindOf]at hk<;>first | trivial | (rename_i k;cases k<;>simp[ikNo]at hk)
 | str s=>cases d<;>simp[Pv.kind,kindOf]at hk<;>first | trivial | (rename_i k;cases k<;>simp[ikNo]at hk)
 | int k n=>cases d<;>simp[Pv.kind,kindOf]at hk<;>first | (rename_i k';cases k<;>cases k'<;>first | rfl | simp[ikNo]at hk) | (cases k<;>simp[ikNo]at hk)
theorem pv_same {d:TypeDesc}{p q:Pv}(hp:MapKept.IsKey d p.val)(hq:MapKept.IsKey d q.val):Instr.sameNow d p.val q.val=some (Pv.beq p q):=by
 cases p<;>cases q<;>cases d<;>simp_all [MapKept.IsKey,Instr.sameNow,Pv.val,Pv.beq,kEq]
 ·rename_i s u
  rw[Bool.eq_iff_iff,MapKept.bytes_beq,beq_iff_eq]
  exact⟨fun e=>by injection e with e;exact congrArg Array.toList e,fun e=>by rw[e]⟩
def midx {V:Type}(k:Pv):List (Pv×V)->Option (Nat×V)
 | []=>none
 | p::r=>if Pv.beq k p.1 then some (0,p.2)else(midx k r).map fun q=>(q.1+1,q.2)
theorem mfind_idx {V:Type}(k:Pv):∀kvs:List (Pv×V),mfind k kvs=(midx k kvs).map (·.2)
 | []=>rfl
 | p::r=>by
  unfold mfind midx
  split
  ·rfl
  ·rw[mfind_idx k r]
   cases midx k r<;>rfl
theorem midx_mem {V:Type}{k:Pv}:∀{kvs:List (Pv×V)} {q:Nat×V},midx k kvs=some q->∃p∈kvs,p.2=q.2
 | [],q,hq=>by cases hq
 | p::r,q,hq=>by
  unfold midx at hq
  split at hq
  ·injection hq with hq;subst hq;exact⟨p,by simp,rfl⟩
  ·cases hmr:midx k r with
   | none=>rw[hmr]at hq;cases hq
   | some q'=>
    rw[hmr]at hq
    injection hq with hq
    subst hq
    obtain⟨p',h1,h2⟩:=midx_mem hmr
    exact⟨p',by simp[h1],h2⟩
theorem find_idx {V:Type}{f:V->Value}{d:TypeDesc}{k:Pv}(hk:MapKept.IsKey d k.val):∀(es:List MapEntry) (kvs:List (Pv×V)) (i:Nat),es.map (fun e=>(e.key,e.val))=kvs.map (fun p=>(p.1.val,f p.2))->(∀p∈kvs,MapKept.IsKey d p.1.val)->
  Instr.findNow d k.val es i=some ((midx k kvs).map fun q=>(i+q.1,f q.2))
 | [],[],_,_,_=>rfl
 | e::es,p::kvs,i,h,ha=>by
  simp only[List.map_cons,List.cons.injEq,Prod.mk.injEq]at h
  unfold Instr.findNow midx
  rw[h.1.1,pv_same hk (ha p (by simp))]
  cases hb:Pv.beq k p.1 with
  | true=>simp[h.1.2]
  | false=>
   simp only[find_idx hk es kvs (i+1) h.2 fun q hq=>ha q (by simp[hq])]
   cases midx k kvs with
   | none=>simp
   | some q=>simp;omega
 | [],_::_,_,h,_=>by simp at h
 | _::_,[],_,h,_=>by simp at h
theorem mput_none {V:Type}{k:Pv}{v:V}:∀{kvs:List (Pv×V)},midx k kvs=none->mput k v kvs=kvs++[(k,v)]
 | [],_=>rfl
 | p::r,h=>by
  unfold midx at h
  unfold mput
  split at h
  ·cases h
  ·rename_i hb
   rw[if_neg hb,mput_none (by simpa using h)]
   rfl
theorem mput_some {V:Type}{k:Pv}{v:V}:∀{kvs:List (Pv×V)} {j:Nat} {u:V},midx k kvs=some (j,u)->∃p,kvs[j]? =some p/\p.1=k/\mput k v kvs=kvs.set j (k,v)
 | [],_,_,h=>by cases h
 | p::r,j,u,h=>by
  unfold midx at h
  unfold mput
  split at h
  ·rename_i hb
   injection h with h
   injection h with h1 h2
   subst h1
   have:=Pv.beq_eq hb
   exact⟨p,rfl,this.symm,by rw[if_pos hb,<-this];rfl⟩
  ·rename_i hb
   cases hm:midx k r with
   | none=>rw[hm]at h;cases h
   | some q=>
    rw[hm]at h
    simp only[Option.map_some,Option.some.injEq,Prod.mk.injEq]at h
    obtain⟨rfl,rfl⟩:=h
    obtain⟨p',h1,h2,h3⟩:=mput_some (v:=v) (j:=q.1) (u:=q.2) hm
    exact⟨p',by simpa using h1,h2,by rw[if_neg hb,h3];rfl⟩
theorem pvOf_rel {x:Sl D}{p:Pv}{v:Value}{M:Nat->Prop}{g:Nat->Option Value}(h:pvOf x=some p)(hr:x.Rel S M w g v):v=p.val/\p.fits:=by
 unfold pvOf at h
 split at h
 ·exact pv_rel h hr
 ·cases h
theorem pvsOf_rel {agg:Bool}{x:Sl D}{ps:List Pv}{v:Value}{M:Nat->Prop}{g:Nat->Option Value}(h:pvsOf agg x=some ps)(hr:x.Rel S M w g v):v=pvsIn agg ps/\∀p∈ps,p.fits:=by
 unfold pvsOf at h
 split at h
 ·split at h
  ·cases h
  ·rename_i ha
   have ha:agg=false:=by simpa using ha
   subst ha
   split at h
   ·rename_i p hp
    injection h with h
    subst h
    obtain⟨q1,q2⟩:=pv_rel hp hr
    exact⟨q1,fun x hx=>by have:=List.mem_singleton.1 hx;subst this;exact q2⟩
   ·cases h
 ·split at h
  ·rename_i ha
   subst ha
   obtain⟨vs,rfl,hl⟩:=hr
   obtain⟨q1,q2⟩:=pvs_rel h hl
   exact⟨by rw[q1];rfl,q2⟩
  ·cases h
 ·cases h
theorem map_under {t:TypeId}{ty:Ty}{k v:TypeId}(h:TyOk P t ty)(hm:ty.mp=some (k,v))(hk:ty.kind=0):P.underlying t=some (.map k v):=by
 obtain⟨i,d,z,lt,_,hd,_,rfl⟩:=ty_parts h
 dsimp only at hm hk
 cases d<;>simp[mapIn,kindOf]at hm hk
 obtain⟨rfl,rfl⟩:=hm
 exact hd
theorem ptr_under {t:TypeId}{ty:Ty}{k v:TypeId}(h:TyOk P t ty)(hm:ty.mp=some (k,v))(hk:ty.kind=6):P.underlying t=some (.pointer k):=by
 obtain⟨i,d,z,lt,_,hd,_,rfl⟩:=ty_parts h
 dsimp only at hm hk
 cases d<;>simp[mapIn,kindOf]at hm hk
 obtain⟨rfl,rfl⟩:=hm
 exact hd
theorem Pv.lf_rel {p:Pv}{M:Nat->Prop}{g:Nat->Option Value}(hf:p.fits):(Pv.lf (D:=D) p).Rel S M w g p.val:=by
 cases p with
 | bool b=>rfl
 | int k n=>rfl
 | str s=>exact⟨rfl,hf⟩
theorem Pv.lfs_rel {M:Nat->Prop}{g:Nat->Option Value}:∀{ps:List Pv},(∀p∈ps,p.fits)->LfsRel S M w g (ps.map (Pv.lf (D:=D))) (ps.map Pv.val)
 | [],_=>trivial
 | p::ps,h=>⟨Pv.lf_rel (h p (by simp)),Pv.lfs_rel fun q hq=>h q (by simp[hq])⟩
theorem pvIs_eq {p:Pv}{v:Value}(h:pvIs p v=true):v=p.val/\p.fits:=by
 unfold pvIs at h
 split at h
 ·simp at h;subst h;exact⟨rfl,trivial⟩
 ·simp only[kEq,Bool.and_eq_true,beq_iff_eq]at h;obtain⟨rfl,rfl⟩:=h;exact⟨rfl,trivial⟩
 ·rename_i s u
  simp only[Bool.and_eq_true,List.isEmpty_iff]at h
  obtain⟨rfl,h2⟩:=h
  have h2:=Nat.eq_of_beq_eq_true h2
  have:u.data= #[]:=Array.eq_empty_of_size_eq_zero h2
  refine⟨?_,by simp[Pv.fits]⟩
  show Value.string u=Value.string ⟨#[]⟩
  rw[<-this]
 ·cases h
theorem pvsAre_eq:∀{ps:List Pv} {vs:List Value},pvsAre ps vs=true->vs=ps.map Pv.val/\∀p∈ps,p.fits
 | [],[],_=>⟨rfl,fun p hp=>by simp at hp⟩
 | p::ps,v::vs,h=>by
  simp only[pvsAre,Bool.and_eq_true]at h
  obtain⟨q1,q2⟩:=pvIs_eq h.1
  obtain⟨q3,q4⟩:=pvsAre_eq h.2
  exact⟨by rw[q1,q3];rfl,fun q hq=>by rcases List.mem_cons.1 hq with rfl | hq;exact q2;exact q4 q hq⟩
 | [],_::_,h=>by cases h
 | _::_,[],h=>by cases h
theorem kindsEq_eq:∀{ps qs:List Pv},kindsEq ps qs=true->ps.map Pv.kind=qs.map Pv.kind
 | [],[],_=>rfl
 | p::ps,q::qs,h=>by
  simp only[kindsEq,Bool.and_eq_true]at h
  simp[Nat.eq_of_beq_eq_true h.1,kindsEq_eq h.2]
 | [],_::_,h=>by cases h
 | _::_,[],h=>by cases h
theorem map_at (hS:ShOk S)(h:Hp S w0 N blk g al w){t:TypeId}{x:Sl D}{v:Value}{m:Mp D}(hm:mapOf S blk t x=some m)(hx:x.Rel S (Mset N blk g) w g v):MpOk S m/\MapIs w m.agg m.kvs v:=by
 unfold mapOf at hm
 split at hm
 ·rename_i l
  have hx:g l=some v:=hx
  split at hm
  ·rename_i d hb
   obtain⟨v',hv',m',r,es,n,hm',hf,rfl,_,hh,hr⟩:=h.bks l _ hb
   rw[hm]at hm'
   injection hm' with hm'
   subst hm'
   rw[hx]at hv'
   injection hv' with hv'
   exact⟨(hS.mpSize _ _ hm).2.2,hf, .inr ⟨r,es,n,hv',hh,hr⟩⟩
  ·rename_i d hb
   obtain⟨v',hv',hd⟩:=h.bks l _ hb
   rw[hx]at hv'
   injection hv' with hv'
   subst hv'
   exact⟨(hS.mpSize _ _ hm).2.2,DatOk.map hd hm⟩
  ·cases hm
 ·exact⟨(hS.mpSize _ _ hm).2.2,DatOk.map hx hm⟩
 ·split at hm
  ·rename_i d hd
   obtain⟨m',hm',hk⟩:=hS.mpNew _ _ hd
   rw[hm]at hm'
   injection hm' with hm'
   subst hm'
   refine⟨(hS.mpSize _ _ hm).2.2,?_⟩
   rw[hk]
   exact⟨fun p hp=>by simp at hp, .inl ⟨hx,rfl⟩⟩
  ·cases hm
 ·cases hm
theorem sound_lookup {t:TypeId}{x ix:Operand}{ok:Bool}(hS:ShOk S)(ho:o.op= .lookup t x ix ok)(hTy:∀t ty,T t=some ty->TyOk P t ty)(h:Hp S w0 N blk g al w)(hx:(opnd slot x).Rel S (Mset N blk g) w g (a.eval x))
  (hi:(opnd slot ix).Rel S (Mset N blk g) w g (a.eval ix)) (hout:xLookup T S blk t (opnd slot x) (opnd slot ix) ok=some out) (hK:Post S w0 N blk g al w fr out o.dst a K):o.wp P a w K Q:=by
 unfold xLookup at hout
 split at hout
 ·cases hout
 rename_i ty hty
 split at hout
 ·cases hout
 rename_i kt vt hmp
 split at hout
 ·rename_i tk tv htk htv
  split at hout
  ·rename_i m k hmo hk
   split at hout
   ·rename_i hc
    simp only[Bool.and_eq_true,beq_iff_eq]at hc
    obtain⟨⟨c0,c1⟩,c2,c3,c4⟩:=hc
    have hund:=map_under (hTy _ _ hty) hmp (Nat.eq_of_beq_eq_true c0)
    obtain⟨d,hd,hkd⟩:=ty_kind (hTy _ _ htk)
    have hkey:=pv_key (t:=kt) (ty:=tk) hkd c1
    obtain⟨hkv1,hkf⟩:=pvOf_rel hk hi
    obtain⟨hmk,hfits,hmap⟩:=map_at hS h hmo hx
    have c2':=Nat.eq_of_beq_eq_true c2
    have hall:∀p∈m.kvs,MapKept.IsKey d p.1.val:=fun p hp=>pv_key (t:=kt) (ty:=tk) hkd (by rw[hmk.keys p hp];exact c2)
    have hkk:k.kind=m.kind:=by rw[c2'];exact Nat.eq_of_beq_eq_true c1
    have hhas:=hmk.has k hkk
    have hget:=hmk.get k hkk
    obtain⟨z,hz,hzc,hza⟩:=ty_zag (hTy _ _ htv) w
    obtain⟨z1,z2⟩:=pvsAre_eq c4
    have hzv:∀p,m.get k=m.zero.map Pv.lf->(m.agg=true\/m.zero=[p])->z=pvsIn m.agg m.zero:=by
     intro p _ hp
     rw[<-hzc]at z1
     cases hag:m.agg with
     | true=>
      rw[hag]at c3
      rw[<-c3]at hza
      cases z<;>first | (simp[isAggV]at hza;done) | skip
      rename_i cs
      simp only[Value.cells]at z1
      show Value.agg cs=Value.agg (m.zero.map Pv.val).toArray
      rw[<-z1]
     | false=>
      rw[hag]at c3 hp
      rw[<-c3]at hza
      have hp:=hp.resolve_left (by simp)
      rw[hp]at z1⊢
      cases z<;>first | (simp[isAggV]at hza;done) | (simp[Value.cells]at z1;exact z1)
    have run:∀(vs:List Pv),(mfind k m.kvs).getD m.zero=vs->(m.agg=true\/∃p,vs=[p])->(Instr.lookup t (a.eval x) (a.eval ix) ok).run P w= .ok (if ok then .tuple #[pvsIn m.agg vs, .bool (m.has k)]else pvsIn m.agg vs) w/\∀p∈vs,p.fits:=by
     intro vs hvs hp
     have body:∀(es:Array MapEntry),es.toList.map (fun e=>(e.key,e.val))=m.kvs.map (fun p=>(p.1.val,pvsIn m.agg p.2))->((do
       Instr.checkKey es.isEmpty 10000 kt k.val
       let (v,ok')<-match<-Instr.findKey kt k.val es.toList with
        | some (_,v)=>pure (v,true)
        | none=>pure (<-zeroValue vt,false)
       pure (if ok then .tuple #[v, .bool ok']else v)):Sem Value).run P w= .ok (if ok then .tuple #[pvsIn m.agg vs, .bool (m.has k)]else pvsIn m.agg vs) w:=by
      intro es he
      have hf:(Instr.findKey kt k.val es.toList).run P w= .ok ((midx k m.kvs).map fun q=>(0+q.1,pvsIn m.agg q.2)) w:=MapKept.run_findKey hd (find_idx hkey es.toList m.kvs 0 he hall)
      have hck:=MapKept.run_checkKey (P:=P) (w:=w) hd hkey es.isEmpty 9999
      rw[mfind_idx]at hhas hvs hget
      cases hm:midx k m.kvs with
      | some q=>
       rw[hm]at hf hhas hvs
       simp only[Option.map_some,Option.getD_some,Option.isSome_some]at hvs hhas
       rw[hhas,<-hvs]
       simp only[Sem.run_bind,hck,hf,Result.andThen_ok,Option.map_some,Sem.run_pure]
      | none=>
       rw[hm]at hf hhas hvs hget
       simp only[Option.map_none,Option.getD_none,Option.isSome_none]at hvs hhas hget
       have hzz:z=pvsIn m.agg m.zero:=by
        rcases hp with hp | ⟨p,hp⟩
        ·exact hzv (.bool false) hget (.inl hp)
        ·exact hzv p hget (.inr (hvs.trans hp))
       rw[hhas,<-hvs,<-hzz]
       simp only[Sem.run_bind,hck,hf,Result.andThen_ok,Option.map_none,Sem.run_pure,hz]
     refine⟨?_,?_⟩
     ·rcases hmap with⟨hv,hnil⟩ | ⟨r,es,n,hv,hh,he⟩
      ·have h2:=body #[] (by rw[hnil];rfl)
       rw[<-h2,hv,hkv1]
       simp[Instr.lookup,run_underlying hund]
       rfl
      ·have h2:=body es he
       rw[<-h2,hv,hkv1]
       simp[Instr.lookup,run_underlying hund,MapKept.run_getObj_map hh]
       rfl
     ·rw[mfind_idx]at hvs
      cases hm:midx k m.kvs with
      | some q=>
       rw[hm]at hvs
       obtain⟨p,h1,h2⟩:=midx_mem hm
       have hvs:q.2=vs:=hvs
       rw[<-hvs,<-h2]
       exact(hfits p h1).2
      | none=>
       rw[hm]at hvs
       have hvs:m.zero=vs:=hvs
       rw[<-hvs]
       exact z2
    have fin:∀(y:Sv D) (vs:List Pv),(mfind k m.kvs).getD m.zero=vs->(m.agg=true\/∃p,vs=[p])->((∀p∈vs,p.fits)->y.Rel S (Mset N blk g) w g (pvsIn m.agg vs))->
      (if ok then some (⟨none, .tup [y, .lf (.bool (m.has k))],[]⟩:Out D)else some ⟨none, .one y,[]⟩)=some out->o.wp P a w K Q:=by
     intro y vs hvs hp hy ho'
     obtain⟨hrun,hfs⟩:=run vs hvs hp
     have hyr:=hy hfs
     split at ho'
     ·rename_i hok
      injection ho' with ho'
      subst ho'
      rw[if_pos hok]at hrun
      refine wp_same (v:= .tuple #[pvsIn m.agg vs, .bool (m.has k)]) ?_ h hK rfl ⟨[_,_],rfl,hyr,rfl,trivial⟩
      simp[execOp,ho,hrun]
     ·rename_i hok
      injection ho' with ho'
      subst ho'
      rw[if_neg hok]at hrun
      refine wp_same (v:=pvsIn m.agg vs) ?_ h hK rfl hyr
      simp[execOp,ho,hrun]
    split at hout
    ·rename_i hag
     refine fin (.agg (m.get k)) _ rfl (.inl hag) (fun hfs=> ?_) hout
     rw[hag,hget]
     exact⟨_,rfl,Pv.lfs_rel hfs⟩
    ·rename_i y hag hge
     rw[hget]at hge
     have hvs:∃p,(mfind k m.kvs).getD m.zero=[p]:=by
      cases hl:(mfind k m.kvs).getD m.zero with
      | nil=>rw[hl]at hge;cases hge
      | cons p r=>
       rw[hl]at hge
       cases r with
       | nil=>exact⟨p,rfl⟩
       | cons q r=>simp at hge
     obtain⟨p,hvs⟩:=hvs
     rw[hvs]at hge
     have hye:y=Pv.lf p:=by simpa using hge.symm
     subst hye
     refine fin (.lf (Pv.lf p)) [p] hvs (.inr ⟨p,rfl⟩) (fun hfs=> ?_) hout
     rw[hag]
     exact Pv.lf_rel (hfs p (by simp))
    ·cases hout
   ·cases hout
  ·cases hout
 ·cases hout
theorem sound_mapPut {t:TypeId}{x ix y:Operand}(hS:ShOk S)(ho:o.op= .mapUpdate t x ix y\/o.op= .insert t x ix y)(hTy:∀t ty,T t=some ty->TyOk P t ty)(h:Hp S w0 N blk g al w)(hx:(opnd slot x).Rel S (Mset N blk g) w g (a.eval x))
  (hi:(opnd slot ix).Rel S (Mset N blk g) w g (a.eval ix)) (hy:(opnd slot y).Rel S (Mset N blk g) w g (a.eval y)) (hout:xMapPut T S blk t (opnd slot x) (opnd slot ix) (opnd slot y)=some out) (hK:Post S w0 N blk g al w fr out o.dst a K):o.wp P a w K Q:=by
 unfold xMapPut at hout
 split at hout
 ·cases hout
 rename_i ty hty
 split at hout
 ·cases hout
 rename_i kt vt hmp
 split at hout
 rotate_left
 ·cases hout
 rename_i tk htk
 split at hout
 rotate_left
 ·cases hout
 rename_i l k hex hk
 rw[hex]at hx
 have hx:g l=some (a.eval x):=hx
 split at hout
 rotate_left
 ·cases hout
 rename_i d0 hb
 split at hout
 rotate_left
 ·cases hout
 rename_i m hm0
 split at hout
 rotate_left
 ·cases hout
 rename_i u hu
 split at hout
 rotate_left
 ·cases hout
 rename_i hc
 injection hout with hout
 subst hout
 simp only[Bool.and_eq_true]at hc
 obtain⟨⟨c0,c1⟩,c2,c3⟩:=hc
 have hund:=map_under (hTy _ _ hty) hmp (Nat.eq_of_beq_eq_true c0)
 obtain⟨d,hd,hkd⟩:=ty_kind (hTy _ _ htk)
 have hkey:=pv_key (t:=kt) (ty:=tk) hkd c1
 have hmk:=(hS.mpSize _ _ hm0).2.2
 have hall:∀p∈m.kvs,MapKept.IsKey d p.1.val:=fun p hp=>pv_key (t:=kt) (ty:=tk) hkd (by rw[hmk.keys p hp];exact c2)
 have hkk:k.kind=m.kind:=by rw[Nat.eq_of_beq_eq_true c2];exact Nat.eq_of_beq_eq_true c1
 obtain⟨m',hm',hkvs',hagg'⟩:=hmk.put k u hkk (kindsEq_eq c3)
 obtain⟨hkv1,hkf⟩:=pvOf_rel hk hi
 obtain⟨huv,huf⟩:=pvsOf_rel hu hy
 obtain⟨v',hv',m2,r,es,n,hm2,hf,rfl,hmine,hh,he⟩:=h.bks l _ hb
 rw[hm0]at hm2
 injection hm2 with hm2
 subst hm2
 rw[hx]at hv'
 injection hv' with hv'
 have hfn:=MapKept.run_findKey (P:=P) (w:=w) hd (find_idx hkey es.toList m.kvs 0 he hall)
 have hck:=MapKept.run_checkKey (P:=P) (w:=w) hd hkey false 9999
 have fin:∀(es':Array MapEntry) (n':Nat),(Instr.mapUpdate t (.map (some r)) k.val (pvsIn m.agg u)).run P w= .ok () {w with heap:=w.heap.setIfInBounds r (.map es' n')}->es'.toList.map (fun e=>(e.key,e.val))=(mput k u m.kvs).map (fun p=>(p.1.val,pvsIn m.agg p.2))->(∀p∈mput k u m.kvs,p.1.fits/\∀x∈p.2,x.fits)->o.wp P a w K Q:=by
  intro es' n' hrun he' hf'
  obtain⟨q1,q2⟩:=MapKept.heap_set (o':=Obj.map es' n') hh
  obtain⟨hp',hk'⟩:=h.write (w':={w with heap:=w.heap.setIfInBounds r (.map es' n')}) (bk':= .map (m.put k u)) hb rfl rfl hx (by rw[hv'];rfl) rfl rfl rfl (by simp) (fun m hm=>q2 m hm)
   (fun _=>⟨m',r,es',n',hm',by rw[hkvs'];exact hf',hv',hmine,q1,by rw[hkvs',hagg'];exact he'⟩)
  refine wp_unit ?_ (hK _ _ _ (More.refl _) hk' (hp'.weaken fun _ h=> .inl h) trivial)
  rcases ho with ho | ho<;>simp[execOp,ho,hv',hkv1,huv,hrun]
 cases hmi:midx k m.kvs with
 | none=>
  rw[hmi]at hfn
  refine fin (es.push {key:=k.val,val:=pvsIn m.agg u,born:=n}) (n+1) ?_ ?_ ?_
  ·simp only[Option.map_none]at hfn
   simp[Instr.mapUpdate,run_underlying hund,MapKept.run_getObj_map hh,hck,hfn,MapKept.run_setObj_map _ hh]
  ·rw[mput_none hmi];simp[he]
  ·rw[mput_none hmi]
   intro p hp
   rcases List.mem_append.1 hp with hp | hp
   ·exact hf p hp
   ·have:=List.mem_singleton.1 hp;subst this;exact⟨hkf,huf⟩
 | some q=>
  rw[hmi]at hfn
  obtain⟨p,hp1,hp2,hp3⟩:=mput_some (v:=u) (j:=q.1) (u:=q.2) hmi
  have hlen:es.toList.length=m.kvs.length:=by have:=congrArg List.length he;simpa using this
  have hql:q.1 < es.size:=by
   have:=(List.getElem?_eq_some_iff.1 hp1).1
   simp at hlen
   omega
  have hej:es[q.1]? =some es[q.1]:=Array.getElem?_eq_getElem hql
  have hkk:es[q.1].key=k.val:=by
   have h1:(es.toList.map (fun e=>(e.key,e.val)))[q.1]? =(m.kvs.map fun p=>(p.1.val,pvsIn m.agg p.2))[q.1]? :=by rw[he]
   simp only[List.getElem?_map,hp1,Option.map_some]at h1
   rw[Array.getElem?_toList,hej]at h1
   simp at h1
   rw[h1.1,hp2]
  refine fin (es.modify q.1 fun e=>{e with key:=k.val,val:=pvsIn m.agg u}) n ?_ ?_ ?_
  ·simp only[Option.map_some,Nat.zero_add]at hfn
   simp[Instr.mapUpdate,run_underlying hund,MapKept.run_getObj_map hh,hck,hfn,hej,hkk,MapKept.run_keyThatStays hkey,MapKept.run_setObj_map _ hh]
  ·rw[hp3]
   refine List.ext_getElem? fun i=> ?_
   have h1:(es.toList.map (fun e=>(e.key,e.val)))[i]? =(m.kvs.map fun p=>(p.1.val,pvsIn m.agg p.2))[i]? :=by rw[he]
   simp only[List.getElem?_map,Array.getElem?_toList]at h1
   rw[List.getElem?_map,Array.getElem?_toList,Array.getElem?_modify,List.getElem?_map,List.getElem?_set]
   by_cases hiq:q.1=i
   ·subst hiq
    have hlt:q.1 < m.kvs.length:=(List.getElem?_eq_some_iff.1 hp1).1
    rw[hej]
    simp[hlt]
   ·rw[if_neg hiq,if_neg hiq]
    exact h1
  ·rw[hp3]
   intro p' hp'
   rcases List.mem_or_eq_of_mem_set hp' with hp' | rfl
   ·exact hf p' hp'
   ·exact⟨hkf,huf⟩
theorem foldl_push (ns:List Int):∀(b:ByteArray),ns.foldl (fun r n=>r.push (UInt8.ofNat n.toNat)) b=⟨(b.data.toList++ns.map fun n=>UInt8.ofNat n.toNat).toArray⟩:=by
 induction ns with
 | nil=>intro b;simp
 | cons n ns ih=>
  intro b
  rw[List.foldl_cons,ih]
  congr 2
  simp[ByteArray.push]
theorem allN_at {f:Nat->Bool}:∀{n:Nat},allN f n=true->∀i,i < n->f i=true
 | 0,_,i,hi=>by omega
 | n+1,h,i,hi=>by
  simp only[allN,Bool.and_eq_true]at h
  by_cases e:i=n
  ·subst e;exact h.1
  ·exact allN_at h.2 i (by omega)
theorem bytesAll_at {d:D}{n:Nat}(h:bytesAll S d n=true)(i:Nat)(hi:i < n):∃k,S.cell d i 0= .int .u8 k:=by
 have:=allN_at h i hi
 unfold isU8 at this
 split at this
 ·rename_i k hk
  exact⟨k,hk⟩
 ·cases this
theorem bytesR_at {d:D}{n:Nat}(h:bytesR S d n=true)(i:Nat)(hi:i < n):∃k,S.cell d i 0= .int .u8 k/\0<=k/\k < 256:=by
 have:=allN_at h i hi
 unfold isU8R at this
 split at this
 ·rename_i k hk
  simp only[Bool.and_eq_true,decide_eq_true_eq]at this
  exact⟨k,hk,this.1,this.2⟩
 ·cases this
theorem allN_mono {f g:Nat->Bool}(h:∀i,f i=true->g i=true):∀{n:Nat},allN f n=true->allN g n=true
 | 0,_=>rfl
 | n+1,hn=>by
  simp only[allN,Bool.and_eq_true]at hn⊢
  exact⟨h n hn.1,allN_mono h hn.2⟩
theorem bytesR_all {d:D}{n:Nat}(h:bytesR S d n=true):bytesAll S d n=true:=
 allN_mono (fun i hi=>by
  unfold isU8R at hi
  split at hi
  ·rename_i k hk;rw[hk];rfl
  ·cases hi) h
theorem bytes_news {d:D}{news:List Value}{M:Nat->Prop}{g:Nat->Option Value}(hs:S.size d=1)(hb:bytesAll S d (S.len d)=true)(hl:news.length=S.len d*S.size d)
  (hc:∀i j,i < S.len d->j < S.size d->∃u,news[i*S.size d+j]? =some u/\(S.cell d i j).Rel S M w g u):∃ns:List Int,news=ns.map (Value.int .u8)/\ns.map (fun n=>UInt8.ofNat n.toNat)=bytesOf S d:=by
 rw[hs,Nat.mul_one]at hl
 have key:∀i,i < S.len d->∃k,S.cell d i 0= .int .u8 k/\news[i]? =some (.int .u8 k):=fun i hi=>by
  obtain⟨k,hk⟩:=bytesAll_at hb i hi
  obtain⟨u,hu,hr⟩:=hc i 0 hi (by omega)
  rw[hk]at hr
  rw[hs,Nat.mul_one,Nat.add_zero]at hu
  have hr:u= .int .u8 k:=hr
  exact⟨k,hk,by rw[hu,hr]⟩
 refine⟨(List.range (S.len d)).map fun i=>match S.cell d i 0 with
  | .int .u8 n=>n
  | _=>0,?_,?_⟩
 ·refine List.ext_getElem? fun i=> ?_
  by_cases hi:i < S.len d
  ·obtain⟨k,hk,hn⟩:=key i hi
   simp[hn,List.getElem?_map,List.getElem?_range hi,hk]
  ·rw[List.getElem?_eq_none (by omega),List.getElem?_eq_none (by simp;omega)]
 ·unfold bytesOf
  rw[List.map_map]
  refine List.map_congr_left fun i hi=> ?_
  obtain⟨k,hk,_⟩:=key i (List.mem_range.1 hi)
  simp[hk,u8Of]
theorem sound_text {t dst:TypeId}{x:Operand}(hS:ShOk S)(ho:o.op= .convert t dst x)(hTy:∀t ty,T t=some ty->TyOk P t ty)(h:Hp S w0 N blk g al w)(hx:(opnd slot x).Rel S (Mset N blk g) w g (a.eval x))
  (hout:xText T S blk t dst (opnd slot x)=some out) (hpre:preD out.pre) (hK:Post S w0 N blk g al w fr out o.dst a K):o.wp P a w K Q:=by
 unfold xText at hout
 split at hout
 ·rename_i ts td hts htd
  split at hout
  ·cases hout
  rename_i e hel
  split at hout
  ·cases hout
  rename_i te hte
  have hsl:=ty_elem (hTy _ _ hts) hel
  split at hout
  ·rename_i hc
   simp only[Bool.and_eq_true]at hc
   obtain⟨c1,c2,c3⟩:=hc
   have c1:=Nat.eq_of_beq_eq_true c1
   have c2:=Nat.eq_of_beq_eq_true c2
   obtain⟨dd,hdd,hkd⟩:=ty_kind (hTy _ _ htd)
   obtain⟨de,hde,hke⟩:=ty_kind (hTy _ _ hte)
   have hdd:P.underlying dst=some .string:=by
    rw[c1]at hkd
    cases dd<;>simp[kindOf]at hkd<;>first | exact hdd | (rename_i k;cases k<;>simp[ikNo]at hkd)
   have hde:P.underlying e=some (.int .u8):=by
    rw[c2]at hke
    cases de<;>simp[kindOf]at hke<;>(rename_i k;cases k<;>simp[ikNo]at hke;exact hde)
   split at hout
   ·rename_i hex
    rw[hex]at hx
    have hx:a.eval x= .slice none 0 0:=hx
    injection hout with hout
    subst hout
    refine wp_same (v:= .string ⟨#[]⟩) ?_ h hK rfl ⟨rfl,by simp⟩
    simp only[execOp,ho,hx,Sem.run_bind,run_convert_bytes_string w t dst e none 0 0 hsl hde hdd]
    rfl
   ·split at hout
    ·rename_i d hd
     split at hout
     ·rename_i hc
      have hs:=Nat.eq_of_beq_eq_true hc
      injection hout with hout
      subst hout
      obtain⟨av,cap,news,hv,hl,hmem,hnone,hone,hcell⟩:=datOf_news hS h hx hd (by omega)
      obtain⟨ns,hn1,hn2⟩:=bytes_news hs hpre hl hcell
      have hlen:(bytesOf S d).length=S.len d:=by simp[bytesOf]
      have hle:S.len d<=9223372036854775807:=by
       unfold datOf at hd
       split at hd
       ·rename_i d' hex
        injection hd with hd
        subst hd
        rw[hex]at hx
        exact DatOk.len_le hx
       ·rename_i l hex
        rw[hex]at hx
        have hx:g l=some (a.eval x):=hx
        split at hd
        ·rename_i e' d' hb
         injection hd with hd
         subst hd
         obtain⟨_,_,hm,_⟩:=h.bks l _ hb
         exact hm.2.1
        ·rename_i d' hb
         injection hd with hd
         subst hd
         obtain⟨_,_,hm⟩:=h.bks l _ hb
         exact DatOk.len_le hm
        ·cases hd
       ·cases hd
      refine wp_same (v:= .string ⟨(bytesOf S d).toArray⟩) ?_ h hK rfl ⟨rfl,by omega⟩
      have hcv:=run_convert_bytes_string w t dst e av (S.len d) cap hsl hde hdd
      have hb:(Conv.bytesToString (.slice av (S.len d) cap)).run P w= .ok (.string ⟨(bytesOf S d).toArray⟩) w:=by
       cases av with
       | none=>
        have h0:=hnone rfl
        have:bytesOf S d=[]:=List.eq_nil_of_length_eq_zero (by omega)
        rw[this]
        rfl
       | some ad=>
        have hld:(loadCells ad (S.len d)).run P w= .ok (ns.map (Value.int .u8)).toArray w:=by
         have:=run_loadCells (P:=P) (w:=w) ad news 0 #[] (fun k u hk=>by have:=hmem ad rfl k u hk;simpa using this)
         rw[hl,hs,Nat.mul_one]at this
         simpa[loadCells,hn1]using this
        rw[run_bytesToString w ad (S.len d) cap ns hld,foldl_push,hn2]
        simp
      simp only[execOp,ho,hv,Sem.run_bind,hcv,hb,Result.andThen_ok,Sem.run_pure]
     ·cases hout
    ·cases hout
  ·cases hout
 ·cases hout
theorem dl_rel {x:Lf D}{p:Dl D}{v:Value}{M:Nat->Prop}{g:Nat->Option Value}(h:x.dl=some p)(hr:x.Rel S M w g v):p.Rel S M w v:=by
 unfold Lf.dl at h
 split at h<;>first | (injection h with h;subst h;exact hr) | cases h
theorem dls_rel {M:Nat->Prop}{g:Nat->Option Value}:∀{xs:List (Lf D)} {ps:List (Dl D)} {vs:List Value},dls xs=some ps->LfsRel S M w g xs vs->DlsRel S M w ps vs
 | [],ps,[],h,_=>by simp[dls]at h;subst h;trivial
 | x::xs,ps,v::vs,h,hr=>by
  unfold dls at h
  split at h
  ·rename_i p ps' h1 h2
   injection h with h
   subst h
   exact⟨dl_rel h1 hr.1,dls_rel h2 hr.2⟩
  ·cases h
theorem dlsOf_rel {M:Nat->Prop}{g:Nat->Option Value}{x:Sl D}{ag:Bool}{ps:List (Dl D)}{v:Value}(h:dlsOf x=some (ag,ps))(hr:x.Rel S M w g v):DlIn S M w ag ps v:=by
 unfold dlsOf at h
 split at h
 ·split at h
  ·rename_i p hp
   injection h with h
   injection h with h1 h2
   subst h1 h2
   exact dl_rel hp hr
  ·cases h
 ·split at h
  ·rename_i ps' hp
   injection h with h
   injection h with h1 h2
   subst h1 h2
   obtain⟨vs,hv,hr⟩:=hr
   exact⟨vs,hv,dls_rel hp hr⟩
  ·cases h
 ·cases h
theorem Dl.lf_rel {M:Nat->Prop}{g:Nat->Option Value}{p:Dl D}{v:Value}(h:p.Rel S M w v):p.lf.Rel S M w g v:=by
 cases p<;>exact h
theorem dls_lf {M:Nat->Prop}{g:Nat->Option Value}:∀{ps:List (Dl D)} {vs:List Value},DlsRel S M w ps vs->LfsRel S M w g (ps.map Dl.lf) vs
 | [],[],_=>trivial
 | p::ps,v::vs,h=>⟨Dl.lf_rel h.1,dls_lf h.2⟩
theorem slIn_rel {M:Nat->Prop}{g:Nat->Option Value}{ag:Bool}{ps:List (Dl D)}{x:Sl D}{v:Value}(h:slIn ag ps=some x)(hr:DlIn S M w ag ps v):x.Rel S M w g v:=by
 unfold slIn at h
 split at h
 ·injection h with h
  subst h
  exact Dl.lf_rel hr
 ·injection h with h
  subst h
  obtain⟨vs,hv,hr⟩:=hr
  exact⟨vs,hv,dls_lf hr⟩
 ·cases h
theorem sound_ifd {t:TypeId}{x:Operand}(ho:o.op= .makeInterface t x)(hTy:∀t ty,T t=some ty->TyOk P t ty)(h:Hp S w0 N blk g al w)(hx:(opnd slot x).Rel S (Mset N blk g) w g (a.eval x))
  (hout:xIfd T t (opnd slot x)=some out) (hK:Post S w0 N blk g al w fr out o.dst a K):o.wp P a w K Q:=by
 unfold xIfd at hout
 split at hout
 ·cases hout
 ·rename_i ty hty
  split at hout
  ·cases hout
  ·rename_i hk
   have hk:ty.kind≠0:=fun e=>hk (by rw[e];rfl)
   have hrun:=run_makeInterface (P:=P) w t (a.eval x) (concrete_of (hTy _ _ hty) hk)
   split at hout
   ·rename_i ag ps hd
    injection hout with hout
    subst hout
    refine wp_same (v:= .iface t (a.eval x)) ?_ h hK rfl ⟨_,rfl,dlsOf_rel hd hx⟩
    simp[execOp,ho,hrun]
   ·cases hout
theorem zeroSl_rel {P:Program}{t:TypeId}{ty:Ty}{z:Sv D}{M:Nat->Prop}{g:Nat->Option Value}(h:TyOk P t ty)(hz:zeroSl ty=some z)(w:World):∃u,(zeroValue t).run P w= .ok u w/\z.Rel S M w g u:=by
 obtain⟨u,hu,hc,ha⟩:=ty_zag h w
 refine⟨u,hu,?_⟩
 unfold zeroSl at hz
 split at hz
 ·split at hz
  ·rename_i hzg
   injection hz with hz
   subst hz
   rw[hzg]at ha
   cases u<;>simp[isAggV]at ha
   rename_i cs
   refine⟨cs.toList,by simp,?_⟩
   have:cs.toList=ty.zero:=by rw[<-hc];simp[Value.cells]
   rw[this]
   exact ofLfs_rel _
  ·cases hz
 ·split at hz
  ·rename_i z0 hz0
   split at hz
   ·cases hz
   ·rename_i hzg
    injection hz with hz
    subst hz
    have hzg:ty.zag=false:=by simpa using hzg
    rw[hzg]at ha
    rw[<-hc]at hz0
    have:u=z0:=by cases u<;>first | (simp[Value.cells]at hz0;exact hz0) | (simp[isAggV]at ha)
    subst this
    exact ofLf_rel _
  ·cases hz
theorem sound_assertD {t st:TypeId}{x:Operand}{ok:Bool}(ho:o.op= .typeAssert x st t ok)(hTy:∀t ty,T t=some ty->TyOk P t ty)(h:Hp S w0 N blk g al w)(hx:(opnd slot x).Rel S (Mset N blk g) w g (a.eval x))
  (hout:xAssertD T t (opnd slot x) ok=some out) (hK:Post S w0 N blk g al w fr out o.dst a K):o.wp P a w K Q:=by
 unfold xAssertD at hout
 split at hout
 ·cases hout
 rename_i ty hty
 split at hout
 ·cases hout
 rename_i hk
 have hk:ty.kind≠0:=fun e=>hk (by rw[e];rfl)
 have hc:=concrete_of (hTy _ _ hty) hk
 unfold Program.concrete at hc
 split at hout
 ·rename_i t' ag ps hex
  rw[hex]at hx
  obtain⟨u,hv,hin⟩:∃u,a.eval x= .iface t' u/\DlIn S (Mset N blk g) w ag ps u:=hx
  split at hout
  ·rename_i y hy
   have hyr:y.Rel S (Mset N blk g) w g u:=slIn_rel (x:= .one y) hy hin
   cases hd:P.underlying t with
   | none=>rw[hd]at hc;cases hc
   | some d=>
    rw[hd]at hc
    split at hout
    ·split at hout
     ·rename_i he
      have he:=Nat.eq_of_beq_eq_true he
      subst he
      injection hout with hout
      subst hout
      refine wp_same (v:= .tuple #[u, .bool true]) ?_ h hK rfl ⟨[u, .bool true],rfl,hyr,rfl,trivial⟩
      cases d<;>first | (cases hc;done) | simp[execOp,ho,Instr.typeAssert,run_underlying hd,hv]
     ·rename_i hne
      have hne:¬t'=t:=fun e=>hne (by rw[e];simp)
      split at hout
      ·rename_i z hz
       injection hout with hout
       subst hout
       obtain⟨zu,hzr,hzrel⟩:=zeroSl_rel (S:=S) (M:=Mset N blk g) (g:=g) (hTy _ _ hty) hz w
       refine wp_same (v:= .tuple #[zu, .bool false]) ?_ h hK rfl ⟨[zu, .bool false],rfl,hzrel,rfl,trivial⟩
       cases d<;>first | (cases hc;done) | simp[execOp,ho,Instr.typeAssert,run_underlying hd,hv,hne,hzr]
      ·cases hout
    ·split at hout
     ·rename_i he
      have he:=Nat.eq_of_beq_eq_true he
      subst he
      injection hout with hout
      subst hout
      refine wp_same (v:=u) ?_ h hK rfl hyr
      cases d<;>first | (cases hc;done) | simp[execOp,ho,Instr.typeAssert,run_underlying hd,hv]
     ·cases hout
  ·cases hout
 ·cases hout
theorem sound_clo {f:FuncId}{first caps:Array Operand}{x:Operand}(ho:o.op= .makeFunc (.func f) first caps)(h1:first.toList=[x])(h2:caps.toList=[])(h:Hp S w0 N blk g al w)(hx:(opnd slot x).Rel S (Mset N blk g) w g (a.eval x))
  (hout:xClo f (opnd slot x)=some out) (hK:Post S w0 N blk g al w fr out o.dst a K):o.wp P a w K Q:=by
 unfold xClo at hout
 split at hout
 ·rename_i ag ps hd
  injection hout with hout
  subst hout
  have e1:first= #[x]:=by rw[<-Array.toList_inj];exact h1
  have e2:caps= #[]:=by rw[<-Array.toList_inj];exact h2
  refine wp_same (v:= .func (.func f) #[a.eval x] #[]) ?_ h hK rfl ⟨_,rfl,dlsOf_rel hd hx⟩
  simp[execOp,ho,Instr.makeFunc,e1,e2]
 ·cases hout
theorem sound_nilC {op:BinOp}{t yt:TypeId}{x y:Operand}(ho:o.op= .binOp op t x y yt)(hTy:∀t ty,T t=some ty->TyOk P t ty)(h:Hp S w0 N blk g al w)(hx:(opnd slot x).Rel S (Mset N blk g) w g (a.eval x))
  (hy:(opnd slot y).Rel S (Mset N blk g) w g (a.eval y)) (hout:xNilC T S op t (opnd slot x) (opnd slot y)=some out) (hK:Post S w0 N blk g al w fr out o.dst a K):o.wp P a w K Q:=by
 unfold xNilC at hout
 split at hout
 ·cases hout
 rename_i ty hty
 split at hout
 ·split at hout
  ·rename_i e d he hex hey
   split at hout
   ·rename_i hc
    simp only[Bool.and_eq_true,Nat.blt_eq]at hc
    have hsl:=ty_elem (hTy _ _ hty) he
    rw[hex]at hx
    rw[hey]at hy
    have hx:DatOk S (Mset N blk g) w d (a.eval x):=hx
    have hy:a.eval y= .slice none 0 0:=hy
    obtain⟨av,cap,hv,hcap⟩:=DatOk.slice hx (by omega)
    rw[hv]at hx
    obtain⟨ad,rfl⟩:=DatOk.some_addr hx hc.1 hc.2
    have hgd:=fun w=>eqGuard_plain (P:=P) (w:=w) (op:=op) (t:=t) (x:=x) (y:=y) (u:= .slice (some ad) (S.len d) cap) (v:= .slice none 0 0) rfl (by simp)
    split at hout
    ·injection hout with hout;subst hout
     refine wp_same (v:= .bool false) ?_ h hK rfl rfl
     simp[execOp,ho,hv,hy,hgd,Lib.run_eql_slice_nil w t e (some ad) (S.len d) cap 0 0 hsl]
    ·injection hout with hout;subst hout
     refine wp_same (v:= .bool true) ?_ h hK rfl rfl
     simp[execOp,ho,hv,hy,hgd,run_neq_slice_nil_any w t e (some ad) (S.len d) cap 0 0 hsl]
    ·cases hout
   ·cases hout
  ·cases hout
 ·cases hout
theorem sound_appendN {c:Call}{x y:Operand}(ho:o.op= .call c)(hc:c.callee= .builtin .append)(hx':c.args.toList=[x,y])(hTy:∀t ty,T t=some ty->TyOk P t ty)(h:Hp S w0 N blk g al w)
  (hx:(opnd slot x).Rel S (Mset N blk g) w g (a.eval x)) (hy:(opnd slot y).Rel S (Mset N blk g) w g (a.eval y)) (hout:xAppendN T S blk c.argTypes (opnd slot x) (opnd slot y)=some out) (hK:Post S w0 N blk g al w fr out o.dst a K):o.wp P a w K Q:=by
 have hargs:c.args= #[x,y]:=by rw[<-Array.toList_inj];exact hx'
 unfold xAppendN at hout
 split at hout
 ·rename_i t t' htt hey
  split at hout
  ·rename_i htt'
   have htt':=Nat.eq_of_beq_eq_true htt'
   subst htt'
   have hat:c.argTypes= #[t,t]:=by rw[<-Array.toList_inj];exact htt
   rw[hey]at hy
   have hy:a.eval y= .slice none 0 0:=hy
   split at hout
   ·cases hout
   rename_i ty hty
   split at hout
   ·cases hout
   rename_i e hel
   split at hout
   ·cases hout
   rename_i te hte
   have hsl:=ty_elem (hTy _ _ hty) hel
   obtain⟨i,z,hi,hz,q1,q2,q3⟩:=ty_info (hTy _ _ hte)
   have run:∀(b:Option Addr) (n cp:Nat),a.eval x= .slice b n cp->n<=cp->(execOp a.eval o).run P w= .ok (.value (a.eval x)) w:=by
    intro b n cp hv hle
    have:(Builtin.append_ #[t,t] o.type #[.slice b n cp, .slice none 0 0]).run P w= .ok (.slice b n cp) w:=by
     cases b<;>simp[Builtin.append_,run_underlying hsl,sizeOf,typeInfo,hi,Builtin.lenOf,Builtin.firstCells,hle,storeCells]
    simp only[execOp,ho,resolve,hc,invoke,builtin,hargs,hat,Sem.run_bind,Sem.run_pure,Result.andThen_ok,List.map_toArray,List.map_cons,List.map_nil,hv,hy,this]
   split at hout
   ·rename_i hex
    rw[hex]at hx
    injection hout with hout
    subst hout
    exact wp_same (v:=a.eval x) (run none 0 0 hx (Nat.le_refl _)) h hK rfl hx
   ·rename_i d hex
    rw[hex]at hx
    split at hout
    ·rename_i hzz
     injection hout with hout
     subst hout
     obtain⟨av,cap,hv,hcap⟩:=DatOk.slice hx (by simpa[Nat.blt_eq]using hzz)
     exact wp_same (v:=a.eval x) (run av _ cap hv hcap) h hK rfl hx
    ·cases hout
   ·rename_i l hex
    rw[hex]at hx
    split at hout
    ·rename_i e' d hb
     injection hout with hout
     subst hout
     have hx:g l=some (a.eval x):=hx
     obtain⟨v,hv',_,xs,⟨_,hown⟩,_⟩:=h.bks l _ hb
     rw[hx]at hv'
     injection hv' with hv'
     rcases hown with⟨h0,hn0⟩ | ⟨b,cap',cur,hvv,_,_,hnc,_⟩
     ·exact wp_same (v:=a.eval x) (run none 0 0 (by rw[hv',h0]) (Nat.le_refl _)) h hK rfl hx
     ·exact wp_same (v:=a.eval x) (run _ _ cap' (by rw[hv',hvv]) hnc) h hK rfl hx
    ·cases hout
   ·cases hout
  ·cases hout
 ·cases hout
theorem sound_sliceC {t:TypeId}{x:Operand}{lo hi:Option Operand}(hS:ShOk S)(ho:o.op= .slice t x lo hi none)(hTy:∀t ty,T t=some ty->TyOk P t ty)(h:Hp S w0 N blk g al w)
  (hr:∀x:Operand,(opnd slot x).Rel S (Mset N blk g) w g (a.eval x)) (hout:xSliceC T S blk t (opnd slot x) (lo.map (opnd slot)) (hi.map (opnd slot))=some out) (hp:preD out.pre) (hK:Post S w0 N blk g al w fr out o.dst a K):o.wp P a w K Q:=by
 have hx:=hr x
 unfold xSliceC at hout
 split at hout
 ·cases hout
 rename_i ty hty
 split at hout
 ·split at hout
  ·rename_i l e hl hel
   split at hout
   ·cases hout
   rename_i te hte
   have hsl:=ty_elem (hTy _ _ hty) hel
   have hsz:=ty_size (hTy _ _ hte) w
   split at hout
   ·rename_i q hex
    rw[hex]at hx
    have hx:g q=some (a.eval x):=hx
    split at hout
    ·rename_i e' d hb
     split at hout
     ·rename_i hc
      simp only[Bool.and_eq_true]at hc
      have h1:=Nat.eq_of_beq_eq_true hc.1
      split at hout
      ·rename_i hh hhi
       split at hout
       ·rename_i d' hd'
        injection hout with hout
        subst hout
        obtain⟨p1,p2,p3⟩:=hp
        obtain⟨h2,k2,_,_⟩:=Hp.coolAll hS [q] blk (by simp) h
        have hfm:[q].filterMap (iceOf blk)=[(q,some (.ice d))]:=by simp[iceOf,hb,rwD]
        rw[hfm]at h2 k2
        obtain⟨v,hv',hd2⟩:=h2.bks q (.ice d) (by simp[updL,upd_same])
        rw[hx]at hv'
        injection hv' with hv'
        subst hv'
        have hd2:DatOk S _ w d (a.eval x):=hd2
        obtain⟨av,cap,hv,hcap⟩:=DatOk.slice' hd2 (hS.mpSub _ _ _ _ hd').1
        rw[hv]at hd2
        have hres:=dat_sub hS hd2 hd' (by omega) (by omega)
        exact wp_val (run_cut ho hsl hsz hv hcap hr hl hhi h1 p1 p2 p3) (hK _ w g (More.refl _) k2 (h2.weaken fun n hn=> .inl hn) hres)
       ·cases hout
      ·cases hout
     ·cases hout
    ·rename_i d hb
     split at hout
     ·rename_i hc
      simp only[Bool.and_eq_true]at hc
      have h1:=Nat.eq_of_beq_eq_true hc.1
      split at hout
      ·rename_i hh hhi
       split at hout
       ·rename_i d' hd'
        injection hout with hout
        subst hout
        obtain⟨p1,p2,p3⟩:=hp
        obtain⟨v,hv',hd2⟩:=h.bks q (.ice d) hb
        rw[hx]at hv'
        injection hv' with hv'
        subst hv'
        have hd2:DatOk S _ w d (a.eval x):=hd2
        obtain⟨av,cap,hv,hcap⟩:=DatOk.slice' hd2 (hS.mpSub _ _ _ _ hd').1
        rw[hv]at hd2
        have hres:=dat_sub hS hd2 hd' (by omega) (by omega)
        exact wp_same (v:=_) (run_cut ho hsl hsz hv hcap hr hl hhi h1 p1 p2 p3) h hK rfl hres
       ·cases hout
      ·cases hout
     ·cases hout
    ·cases hout
   ·cases hout
  ·cases hout
 ·cases hout
theorem sound_allocT {t:TypeId}(ho:o.op= .alloc t)(hTy:∀t ty,T t=some ty->TyOk P t ty)(h:Hp S w0 N blk g al w)(hfr:∀n,fr<=n->n < fr+64->¬al n)
  (hout:xAllocT T fr t=some out) (hK:Post S w0 N blk g al w fr out o.dst a K):o.wp P a w K Q:=by
 unfold xAllocT at hout
 split at hout
 ·cases hout
 rename_i ty hty
 split at hout
 ·rename_i hbld
  injection hout with hout
  subst hout
  obtain⟨z,hz,hzc⟩:=ty_zero (hTy _ _ hty) w
  have hzero:ty.zero=[.pointer none, .slice none 0 0]:=by
   unfold isBld at hbld
   split at hbld
   ·assumption
   ·cases hbld
  have hrun:(execOp a.eval o).run P w= .ok (.value (.pointer (some ⟨w.heap.size,0,none⟩))) (w.alloc (.cells z.cells t)):=by
   simp[execOp,ho,Instr.alloc,hz,newVar,newRow,newObj,Sem.run]
  obtain⟨h1,h2,h3⟩:=h.add (l:=fr) (bk:= .tc t [.val (.slice none 0 0)]) (v:= .pointer (some ⟨w.heap.size,0,none⟩)) ((Below.refl w.heap.size w).alloc (Nat.le_refl _) (.cells z.cells t)) (hfr fr (Nat.le_refl _) (by omega)) (fun b hb=>by simp[blkOf]at hb;omega)
   (fun M' hk _=>⟨w.heap.size,[.slice none 0 0],rfl, .inl h.below.size,⟨.pointer none,by
    have hzc':z.cells= #[.pointer none, .slice none 0 0]:=by rw[<-Array.toList_inj,<-hzero,<-hzc]
    rw[hzc'];simpa using heap_alloc_new w (.cells #[.pointer none, .slice none 0 0] t), .inl rfl⟩,rfl,trivial⟩)
  exact wp_val hrun (hK _ _ _ h3 h2 (h1.weaken al64) ⟨w.heap.size,upd_same _ _ _,rfl⟩)
 ·cases hout
theorem sound_loadT {t:TypeId}{x:Operand}(ho:o.op= .load t x)(hTy:∀t ty,T t=some ty->TyOk P t ty)(h:Hp S w0 N blk g al w)(hx:(opnd slot x).Rel S (Mset N blk g) w g (a.eval x))
  (hout:xLoadT T blk t (opnd slot x)=some out) (hK:Post S w0 N blk g al w fr out o.dst a K):o.wp P a w K Q:=by
 unfold xLoadT at hout
 split at hout
 ·cases hout
 rename_i ty hty
 have hagg:=ty_isAgg (hTy _ _ hty) w
 split at hout
 ·rename_i l off hex
  rw[hex]at hx
  obtain⟨b,hg,hv⟩:=hx
  split at hout
  ·rename_i t' cs hb
   obtain⟨v',hv',b',vs,rfl,_,⟨u0,hh,_⟩,hr⟩:=h.bks l _ hb
   rw[hg]at hv'
   injection hv' with hv'
   injection hv' with hv'
   injection hv' with hv'
   injection hv' with hv'
   subst hv'
   split at hout
   ·cases hout
   rename_i hag
   split at hout
   ·cases hout
   rename_i off
   split at hout
   ·rename_i y hy
    injection hout with hout
    subst hout
    obtain⟨u,hu,hrel⟩:=hr.get off hy
    refine wp_same (v:=u) ?_ h hK rfl hrel
    have hu':(u0::vs)[off+1]? =some u:=by simpa using hu
    simp[execOp,ho,Instr.loadAt,Instr.sureAddr,hv,loadVar,hagg,hag,load,Sem.run,cell_of hh,hu]
   ·cases hout
  ·cases hout
 ·cases hout
theorem sound_storeT {t:TypeId}{x y:Operand}(ho:o.op= .store t x y)(hTy:∀t ty,T t=some ty->TyOk P t ty)(h:Hp S w0 N blk g al w)(hx:(opnd slot x).Rel S (Mset N blk g) w g (a.eval x))
  (hy:(opnd slot y).Rel S (Mset N blk g) w g (a.eval y)) (hout:xStoreT T blk t (opnd slot x) (opnd slot y)=some out) (hK:Post S w0 N blk g al w fr out o.dst a K):o.wp P a w K Q:=by
 unfold xStoreT at hout
 split at hout
 ·rename_i ty l off u hty hex hey
  have hsz:=ty_size (hTy _ _ hty) w
  rw[hex]at hx
  rw[hey]at hy
  obtain⟨b,hg,hv⟩:=hx
  split at hout
  ·rename_i t' cs hb
   split at hout
   ·cases hout
   rename_i off
   split at hout
   ·rename_i hc
    injection hout with hout
    subst hout
    simp only[Bool.and_eq_true,Bool.not_eq_true',Nat.blt_eq]at hc
    obtain⟨c1,c2,c3,c4⟩:=hc
    have c1:=Nat.eq_of_beq_eq_true c1
    obtain⟨v',hv',b',vs,rfl,hm,⟨u0,hh,hu0⟩,hr⟩:=h.bks l _ hb
    rw[hg]at hv'
    injection hv' with hv'
    injection hv' with hv'
    injection hv' with hv'
    injection hv' with hv'
    subst hv'
    have hall:(Sv.lf u:Sv D).cells.all Lf.storable=true:=by simp[Sv.cells,c4]
    have hu:=whole_cells (u:= .lf u) h.refs (whole_of_all hall) hy
    have hlen:=hu.length
    have hl1:(Sv.lf u:Sv D).cells.length=1:=rfl
    obtain⟨w',hrun,hb',hn,hs,q1,q2,q3⟩:=run_storeCells (P:=P) b t' (a.eval y).cells.toList w (u0::vs) (off+1) 0 hh (by rw[List.length_cons,<-hr.length,<-hlen,hl1];omega) (all_one h.refs hall hu)
    have hrun':(execOp a.eval o).run P w= .ok .skip w':=by
     have hsz2:(a.eval y).cells.size=ty.size:=by rw[c1,<-hl1,hlen];simp
     simp[execOp,ho,Instr.storeAt,Instr.sureAddr,hv,storeVar,hsz,hsz2,hrun]
    obtain⟨hp',hk'⟩:=h.write (bk':= .tc t' (putAt cs off [u])) hb rfl rfl hg rfl q1 q2 q3 hs hn (fun hk=>by
     have h9:=(hr.putAt hu off).keep hk (More.refl _)
     refine⟨b,_,rfl,hm,⟨u0,?_,hu0⟩,by simpa[Sv.cells]using h9⟩
     have e2:List.drop (off+1+(a.eval y).cells.size) (u0::vs)=List.drop (off+(a.eval y).cells.size) vs:=by
      rw[show off+1+(a.eval y).cells.size=(off+(a.eval y).cells.size)+1 by omega];rfl
     simp only[Nat.add_zero,Array.length_toList,List.take_succ_cons,e2,List.cons_append]at hb'
     simpa using hb')
    exact wp_unit hrun' (hK _ _ _ (More.refl _) hk' (hp'.weaken fun _ h=> .inl h) trivial)
   ·cases hout
  ·cases hout
 ·cases hout
theorem zero_u8 {e:TypeId}{te:Ty}{i:TypeInfo}(h:TyOk P e te)(hz:isZu8 te=true)(hi:P.info? e=some i):i.zero=some (.int .u8 0):=by
 obtain⟨i',d',z',lt',hi',hd',hz',rfl⟩:=ty_parts h
 rw[hi]at hi'
 injection hi' with hi'
 subst hi'
 rw[hz']
 unfold isZu8 at hz
 dsimp only at hz
 split at hz
 ·rename_i hc
  simp only[Bool.not_eq_true']at hz
  congr 1
  cases z'<;>first | exact(List.cons.inj hc).1 | (simp[isAggV]at hz)
 ·cases hz
theorem str_news {e:Nat}{s:List UInt8}{d2:D}(hS:ShOk S)(hd:S.text e s=some d2)(hs:S.size d2=1):S.len d2=s.length/\∀i,i < s.length->∃u,(Lib.strCells ⟨s.toArray⟩)[i]? =some u/\(S.cell d2 i 0).isData=true/\∀(M:Nat->Prop) (w:World) (g:Nat->Option Value),(S.cell d2 i 0).Rel S M w g u:=by
 obtain⟨_,m2,m3⟩:=hS.text _ _ _ hd
 refine⟨m2,fun i hi=> ?_⟩
 have hcell:=m3 i hi
 refine⟨.int .u8 (s.getD i 0).toNat,?_,hS.data _ _ _ (by omega) (by omega),fun M w g=> ?_⟩
 ·simp[Lib.strCells,List.getD,hi]
 ·rw[hcell];rfl
theorem sound_appendS {c:Call}{x y:Operand}(hS:ShOk S)(ho:o.op= .call c)(hc:c.callee= .builtin .append)(hx':c.args.toList=[x,y])(hTy:∀t ty,T t=some ty->TyOk P t ty)(h:Hp S w0 N blk g al w)(hfr:∀n,fr<=n->n < fr+64->¬al n)
  (hx:(opnd slot x).Rel S (Mset N blk g) w g (a.eval x)) (hy:(opnd slot y).Rel S (Mset N blk g) w g (a.eval y)) (hout:xAppendS T S blk fr c.argTypes (opnd slot x) (opnd slot y)=some out) (hp:preD out.pre)
  (hK:Post S w0 N blk g al w fr out o.dst a K):o.wp P a w K Q:=by
 have hargs:c.args= #[x,y]:=by rw[<-Array.toList_inj];exact hx'
 have hmg:∀v',More g (upd g fr (some v')):=fun v' l v hl=>by
  rw[upd_other _ _ _ _ (by rintro rfl;exact hfr _ (Nat.le_refl _) (by omega) (h.al _ _ hl))]
  exact hl
 unfold xAppendS at hout
 split at hout
 ·rename_i t t' s htt hey
  have hat:c.argTypes= #[t,t']:=by rw[<-Array.toList_inj];exact htt
  rw[hey]at hy
  obtain⟨hyv,hyl⟩:a.eval y= .string ⟨s.toArray⟩/\s.length<=9223372036854775807:=hy
  split at hout
  ·rename_i ty ty' hty hty'
   split at hout
   ·cases hout
   rename_i e hel
   split at hout
   ·cases hout
   rename_i te hte
   have hsl:=ty_elem (hTy _ _ hty) hel
   obtain⟨i,z,hi,hz,q1,q2,q3⟩:=ty_info (hTy _ _ hte)
   split at hout
   ·rename_i hcc
    simp only[Bool.and_eq_true]at hcc
    obtain⟨c1,c2,c3,c4⟩:=hcc
    have c2:=Nat.eq_of_beq_eq_true c2
    have c3:=Nat.eq_of_beq_eq_true c3
    have c4:=Nat.eq_of_beq_eq_true c4
    obtain⟨ds,hds,hks⟩:=ty_kind (hTy _ _ hty')
    have hds:P.underlying t'=some .string:=by
     rw[c4]at hks
     cases ds<;>simp[kindOf]at hks<;>first | exact hds | (rename_i k;cases k<;>simp[ikNo]at hks)
    have hz0:i.zero=some (.int .u8 0):=zero_u8 (hTy _ _ hte) c1 hi
    split at hout
    ·cases hout
    rename_i d2 hd2
    split at hout
    ·rename_i hs2
     have hs2:=Nat.eq_of_beq_eq_true hs2
     obtain⟨hl2,hcell2⟩:=str_news hS hd2 hs2
     have hsz:(ByteArray.mk s.toArray).size=s.length:=by show s.toArray.size=_;simp
     have hnews:(Lib.strCells ⟨s.toArray⟩).length=s.length:=by rw[Lib.strCells_length,hsz]
     have run:∀(v1:Value) (n:Nat) (xs:List Value),a.eval x=v1->w.ownsRow 0 e 1 v1 n xs->roomP (n+s.length) 1->
       ∃v' w',(execOp a.eval o).run P w= .ok (.value v') w'/\w'.ownsRow 0 e 1 v' (n+s.length) (xs++Lib.strCells ⟨s.toArray⟩)/\w.grownBy w' v1.ownBlock/\(v'.ownBlock=v1.ownBlock\/v'.ownBlock=some w.heap.size\/v'.ownBlock=none):=by
      intro v1 n xs hv1 hown hroom
      obtain⟨r1,r2⟩:=hroom
      obtain⟨v',w',h1,h2,h3,h4⟩:=Lib.run_append_own_string (P:=P) (w:=w) 0 t t' o.type e i hsl hds hi hz0 (by omega) (by omega) v1 n xs hown ⟨s.toArray⟩ (by rw[hsz];simp only[maxLen];omega) (by rw[hsz];omega) (Nat.zero_le _)
      rw[hsz]at h2
      refine⟨v',w',?_,h2,h3,?_⟩
      ·simp only[execOp,ho,resolve,hc,invoke,builtin,hargs,hat,Sem.run_bind,Sem.run_pure,Result.andThen_ok,List.map_toArray,List.map_cons,List.map_nil,hv1,hyv,h1]
      ·rcases hown.2 with⟨rfl,rfl⟩ | ⟨b,cap,cur,rfl,hbg,hg',hnc,hcm,hcs,htake⟩
       ·obtain⟨v2,w2,g1,g2,g3,g4⟩:=Lib.run_append_own_string (P:=P) (w:=w) w.heap.size t t' o.type e i hsl hds hi hz0 (by omega) (by omega) (.slice none 0 0) 0 [] (World.ownsRow_nil w w.heap.size e 1) ⟨s.toArray⟩ (by rw[hsz];simp only[maxLen];omega) (by rw[hsz];omega) (Nat.le_refl _)
        by_cases hm:s.length=0
        ·have:v'= .slice none 0 0:=h4.2 ⟨rfl,by rw[hsz];exact hm⟩
         exact .inl (by rw[this])
        ·have hr:=run_append_nil_string (P:=P) w t t' o.type e i (.int .u8 0) hsl hds hi hz0 ⟨s.toArray⟩ (by rw[hsz];omega) (by rw[hsz];omega) (by rw[hsz,q2,c3];omega)
         rw[hr]at h1
         injection h1 with h1 _
         exact .inr (.inl (by rw[<-h1];rfl))
       ·have hcs':cur.size=cap:=by simpa using hcs
        by_cases hroom':n+(ByteArray.mk s.toArray).size<=cap
        ·have hr:=Lib.run_append_room_string (P:=P) w t t' o.type e i hsl hds hi (by omega) b n cap cur hg' ⟨s.toArray⟩ hroom' (by omega)
         rw[hr]at h1
         injection h1 with h1 _
         exact .inl (by rw[<-h1];rfl)
        ·have hxl:xs.length=n:=by simpa using hown.1
         have holds:∀j u,xs[j]? =some u->w.cell? ((⟨b,0,none⟩:Addr).add j)=some u:=hown.cells (g:=b) rfl
         have hr:=Lib.run_append_grow_string (P:=P) w t t' o.type e i (.int .u8 0) hsl hds hi hz0 ⟨b,0,none⟩ n cap xs (by rw[q1,c2];simpa using hxl) holds ⟨s.toArray⟩ (by omega) (by rw[hsz];omega) (by rw[q2,c3];exact growslice_fits (by omega) (by rw[hsz];omega))
         rw[hr]at h1
         injection h1 with h1 _
         exact .inr (.inl (by rw[<-h1];rfl))
     split at hout
     ·rename_i hex
      injection hout with hout
      subst hout
      rw[hex]at hx
      obtain⟨v',w',r1,r2,r3,r4⟩:=run (.slice none 0 0) 0 [] hx (World.ownsRow_nil w 0 e 1) (by rw[Nat.zero_add];exact hp)
      have hB:Below w.heap.size w w':=⟨r3.os,r3.tape,r3.output,r3.size,fun k hk=>r3.block k hk (by simp[Value.ownBlock])⟩
      have hsl':∃a n c,v'= .slice a n c:=by rcases r2.2 with⟨rfl,_⟩ | ⟨b,cp,cur,rfl,_⟩<;>exact⟨_,_,_,rfl⟩
      have hpos:∀b,blkOf v'=some b->w.heap.size<=b:=by
       intro b hb
       rw[own_blk v' hsl']at r4
       rcases r4 with r4 | r4 | r4
       ·rw[hb]at r4;simp[Value.ownBlock]at r4
       ·rw[hb]at r4;injection r4 with r4;omega
       ·rw[hb]at r4;cases r4
      obtain⟨g1,g2,g3⟩:=h.add (l:=fr) (bk:= .row e d2) (v:=v') hB (hfr fr (Nat.le_refl _) (by omega)) hpos (fun M' hk _=>by
       refine⟨⟨fun b hb=> .inl (Nat.le_trans h.below.size (hpos b hb)),⟨by rw[hl2];have:roomP s.length 1:=hp;have:=this.1;omega,hS.mpNo (by omega)⟩⟩,Lib.strCells ⟨s.toArray⟩,?_,fun i' j hi' hj=> ?_⟩
       ·have:=r2
        rw[Nat.zero_add,List.nil_append]at this
        rw[hs2,hl2];exact this
       ·rw[hs2]at hj⊢
        obtain rfl:j=0:=by omega
        obtain⟨u,hu,hda,hr⟩:=hcell2 i' (by omega)
        exact⟨u,by simpa using hu,hda,hr _ _ _⟩)
      exact wp_val r1 (hK _ _ _ g3 g2 (g1.weaken al64) (upd_same _ _ _))
     ·rename_i l hex
      rw[hex]at hx
      have hx:g l=some (a.eval x):=hx
      split at hout
      ·rename_i e' d1 hb
       split at hout
       ·rename_i hee
        simp only[Bool.and_eq_true]at hee
        have hs1:=Nat.eq_of_beq_eq_true hee.2
        have hee:=Nat.eq_of_beq_eq_true hee.1
        subst hee
        split at hout
        ·rename_i d hcat
         injection hout with hout
         subst hout
         obtain⟨c1',c2',c3',c4',c5'⟩:=hS.cat _ _ _ hcat
         obtain⟨v1,hv1,hm,xs,hown,hcell⟩:=h.bks l _ hb
         rw[hx]at hv1
         injection hv1 with hv1
         rw[hs1]at hown
         obtain⟨v',w',r1,r2,r3,r4⟩:=run v1 (S.len d1) xs hv1 hown hp
         have hsl1:∃a n c,v1= .slice a n c:=by rcases hown.2 with⟨rfl,_⟩ | ⟨b,cp,cur,rfl,_⟩<;>exact⟨_,_,_,rfl⟩
         have hsl':∃a n c,v'= .slice a n c:=by rcases r2.2 with⟨rfl,_⟩ | ⟨b,cp,cur,rfl,_⟩<;>exact⟨_,_,_,rfl⟩
         rw[own_blk v' hsl',own_blk v1 hsl1]at r4
         rw[own_blk v1 hsl1]at r3
         have hsd:S.size d=1:=by omega
         obtain⟨g1,g2,g3⟩:=h.move (l:=l) (fr:=fr) (bk':= .row e d) (v:=v1) (v':=v') (by rw[hb];rfl) (hv1▸hx) (hfr fr (Nat.le_refl _) (by omega)) r3.os r3.tape r3.output r3.size (fun n hn hne=>r3.block n hn fun e=>hne e.symm)
          (fun b hb'=>by
           rcases r4 with r4 | r4 | r4
           ·exact .inl (r4▸hb')
           ·rw[hb']at r4;injection r4 with r4;exact .inr (by omega)
           ·rw[hb']at r4;cases r4)
          (fun M' hk _=>by
           refine⟨⟨fun b hb'=> ?_,⟨by rw[c3',hl2];have:roomP (S.len d1+s.length) 1:=hp;have:=this.1;omega,hS.mpNo (by omega)⟩⟩,xs++Lib.strCells ⟨s.toArray⟩,?_,fun i' j hi' hj=> ?_⟩
           ·rcases r4 with r4 | r4 | r4
            ·exact hm.1 b (r4▸hb')
            ·rw[hb']at r4;injection r4 with r4;exact .inl (r4▸h.below.size)
            ·rw[hb']at r4;cases r4
           ·have:=r2
            rw[hsd,c3',hl2];exact this
           ·rw[hsd]at hj⊢
            obtain rfl:j=0:=by omega
            rw[c3',hl2]at hi'
            have hxl:xs.length=S.len d1:=by simpa using hown.1
            by_cases hlt:i' < S.len d1
            ·obtain⟨u,hu,hda,hr⟩:=hcell i' 0 hlt (by omega)
             rw[c4' i' 0 hlt]
             refine⟨u,?_,hda,hr.keep hk (hmg _)⟩
             rw[Nat.mul_one,Nat.add_zero,List.getElem?_append_left (by omega),<-hu,hs1,Nat.mul_one,Nat.add_zero]
            ·obtain⟨k,rfl⟩:∃k,i'=S.len d1+k:=⟨i' - S.len d1,by omega⟩
             obtain⟨u,hu,hda,hr⟩:=hcell2 k (by omega)
             rw[c5' k 0 (by omega)]
             refine⟨u,?_,hda,hr _ _ _⟩
             rw[Nat.mul_one,Nat.add_zero,List.getElem?_append_right (by omega),<-hu,hxl]
             congr 1
             omega)
         exact wp_val r1 (hK _ _ _ g3 g2 (g1.weaken al64) (upd_same _ _ _))
        ·cases hout
       ·cases hout
      ·cases hout
     ·cases hout
    ·cases hout
   ·cases hout
  ·cases hout
 ·cases hout
theorem Hp.burn (h:Hp S w0 N blk g al w){l b:Nat}{v:Value}(hl:hot (blk l)=true)(hg:g l=some v)(hv:blkOf v=some b)(hos:w'.os=w.os)(htp:w'.tape=w.tape)(hout:w'.output=w.output)(hsz:w'.heap.size=w.heap.size)
  (hsame:∀n,n≠b->w'.heap[n]? =w.heap[n]?):Hp S w0 N (upd blk l none) g al w'/\Keeps (Mset N blk g) w (Mset N (upd blk l none) g) w':=by
 have hot1:hot (upd blk l none l)=false:=by rw[upd_same];rfl
 have hsub:∀n,hot (upd blk l none n)=true->hot (blk n)=true:=fun n hn=>by
  by_cases he:n=l
  ·subst he;rw[hot1]at hn;cases hn
  ·rwa [upd_other _ _ _ _ he]at hn
 have hbM:Mset N blk g b:= .inr ⟨l,v,hl,hg,hv⟩
 obtain⟨hblt,hbm⟩:=h.mine hl hg hv
 have hk:Keeps (Mset N blk g) w (Mset N (upd blk l none) g) w':=by
  refine⟨by omega,fun c _ hm=>⟨?_,hsame c fun e=>hm (e▸hbM)⟩⟩
  rintro(hn | ⟨n,u,h1,h2,h3⟩)
  ·exact hm (.inl hn)
  ·exact hm (.inr ⟨n,u,hsub n h1,h2,h3⟩)
 refine⟨⟨⟨hos.trans h.below.os,htp.trans h.below.tape,hout.trans h.below.output,by rw[hsz];exact h.below.size,fun k hk' hx=> ?_⟩,h.hN,fun n bk hn=> ?_,fun n c vn vc d hn hc=>h.sep n c vn vc d (hsub n hn) (hsub c hc),h.al,h.refs,h.gl.keep hk⟩,hk⟩
 ·refine(hsame k fun e=> ?_).trans (h.below.block k hk' hx)
  subst e
  rcases hbm with q | q
  ·omega
  ·exact hx q
 ·by_cases hne:n=l
  ·subst hne
   rw[upd_same]at hn
   cases hn
  ·rw[upd_other _ _ _ _ hne]at hn
   obtain⟨u,hu,hoku⟩:=h.bks n bk hn
   refine⟨u,hu,hoku.keep hk (More.refl _) fun hh c hc=>hsame c fun e=> ?_⟩
   subst e
   exact hne (h.sep n l u v c (by rw[hn];exact hh) hl hu hg hc hv)
theorem sound_sliceData {c:Call}{x:Operand}(ho:o.op= .call c)(hc:c.callee= .builtin .unsafeSliceData)(hx':c.args.toList=[x])(h:Hp S w0 N blk g al w)(hx:(opnd slot x).Rel S (Mset N blk g) w g (a.eval x))
  (hout:xSliceData S blk (opnd slot x)=some out) (hp:preD out.pre) (hK:Post S w0 N blk g al w fr out o.dst a K):o.wp P a w K Q:=by
 have hargs:c.args= #[x]:=by rw[<-Array.toList_inj];exact hx'
 unfold xSliceData at hout
 split at hout
 ·rename_i l hex
  rw[hex]at hx
  have hx:g l=some (a.eval x):=hx
  split at hout
  ·rename_i e d hb
   split at hout
   ·injection hout with hout
    subst hout
    have hp:0 < S.len d:=hp
    obtain⟨v,hv',_,xs,⟨_,hown⟩,_⟩:=h.bks l _ hb
    rw[hx]at hv'
    injection hv' with hv'
    rcases hown with⟨_,hn0⟩ | ⟨b,cap,cur,hvv,_,_,hnc,_⟩
    ·omega
    ·have hev:a.eval x= .slice (some ⟨b,0,none⟩) (S.len d) cap:=by rw[hv',hvv]
     refine wp_same (v:= .pointer (some ⟨b,0*1+0,none⟩)) ?_ h hK rfl ⟨b,S.len d,cap,by rw[hx,hev],rfl⟩
     simp only[execOp,ho,resolve,hc,invoke,builtin,hargs,Sem.run_bind,Sem.run_pure,Result.andThen_ok,List.map_toArray,List.map_cons,List.map_nil,hev,Lib.run_unsafeSliceData_row _ _ _ _ _ _ (show cap≠0 by omega)]
   ·cases hout
  ·cases hout
 ·rename_i hex
  rw[hex]at hx
  have hx:a.eval x= .slice none 0 0:=hx
  injection hout with hout
  subst hout
  refine wp_same (v:= .pointer none) ?_ h hK rfl rfl
  simp only[execOp,ho,resolve,hc,invoke,builtin,hargs,Sem.run_bind,Sem.run_pure,Result.andThen_ok,List.map_toArray,List.map_cons,List.map_nil,hx,Lib.run_unsafeSliceData_nil]
 ·cases hout
theorem freeze_other (w:World)(b n m:Nat):(w.freeze ⟨b,0,none⟩ n).os=w.os/\(w.freeze ⟨b,0,none⟩ n).tape=w.tape/\(w.freeze ⟨b,0,none⟩ n).output=w.output/\(w.freeze ⟨b,0,none⟩ n).heap.size=w.heap.size/\(m≠b->(w.freeze ⟨b,0,none⟩ n).heap[m]? =w.heap[m]?):=by
 unfold World.freeze
 split
 ·exact⟨rfl,rfl,rfl,rfl,fun _=>rfl⟩
 ·refine⟨rfl,rfl,rfl,by simp,fun hm=> ?_⟩
  simp[Array.getElem?_modify,Ne.symm hm]
theorem sound_unsafeStr {c:Call}{x y:Operand}(ho:o.op= .call c)(hc:c.callee= .builtin .unsafeString)(hx':c.args.toList=[x,y])(hTy:∀t ty,T t=some ty->TyOk P t ty)(h:Hp S w0 N blk g al w)(hx:(opnd slot x).Rel S (Mset N blk g) w g (a.eval x))
  (hy:(opnd slot y).Rel S (Mset N blk g) w g (a.eval y)) (hout:xUnsafeStr T S blk c.argTypes (opnd slot x) (opnd slot y)=some out) (hp:preD out.pre) (hK:Post S w0 N blk g al w fr out o.dst a K):o.wp P a w K Q:=by
 have hargs:c.args= #[x,y]:=by rw[<-Array.toList_inj];exact hx'
 unfold xUnsafeStr at hout
 split at hout
 ·rename_i l n hex hey
  rw[hex]at hx
  rw[hey]at hy
  have hy:a.eval y= .int .i64 n:=hy
  obtain⟨b,n',cap',hg,hv⟩:=hx
  have hv:a.eval x= .pointer (some ⟨b,0,none⟩):=by simpa using hv
  split at hout
  ·rename_i e d hb
   split at hout
   ·rename_i hcc
    injection hout with hout
    subst hout
    simp only[Bool.and_eq_true]at hcc
    obtain⟨c0,c1⟩:=hcc
    have c1:=Nat.eq_of_beq_eq_true c1
    obtain⟨p1,p2,c2⟩:n=S.len d/\0 < n/\bytesR S d (S.len d)=true:=hp
    subst p1
    have p2:0 < S.len d:=by omega
    unfold ptrTo at c0
    split at c0
    ·rename_i pt it hts
     have hat:c.argTypes= #[pt,it]:=by rw[<-Array.toList_inj];exact hts
     split at c0
     ·rename_i ty te hty hte
      simp only[Bool.and_eq_true]at c0
      obtain⟨k1,k2,k3⟩:=c0
      have k1:=Nat.eq_of_beq_eq_true k1
      have k2:=Nat.eq_of_beq_eq_true k2
      split at k3
      ·rename_i e' e'' hmp
       have k3:=Nat.eq_of_beq_eq_true k3
       subst k3
       have hpt:=ptr_under (hTy _ _ hty) hmp k1
       obtain⟨i,z,hi,hz,q1,q2,q3⟩:=ty_info (hTy _ _ hte)
       have hcells:P.cellsOf e=1:=by simp[Program.cellsOf,hi,q1,k2]
       obtain⟨v,hv',hm,xs,hown,hcell⟩:=h.bks l _ hb
       rw[hg]at hv'
       injection hv' with hv'
       rcases hown.2 with⟨_,hn0⟩ | ⟨b',cap,cur,hvv,_,hh,hnc,hcm,hcs,htake⟩
       ·omega
       ·rw[hvv]at hv'
        injection hv' with hv1 hv2 hv3
        injection hv1 with hv1
        injection hv1 with hv1
        subst hv1
        have hl:xs.length=S.len d*S.size d:=hown.1
        obtain⟨ns,hn1,hn2⟩:=bytes_news c1 (bytesR_all c2) hl (fun i j hi hj=>by obtain⟨u,h1,_,h3⟩:=hcell i j hi hj;exact⟨u,h1,h3⟩)
        have hlen:(bytesOf S d).length=S.len d:=by simp[bytesOf]
        have hcl:∀j x,(bytesOf S d)[j]? =some x->w.cell? ((⟨b,0,none⟩:Addr).add j)=some (.int .u8 x.toNat):=by
         intro j x hj
         have hjl:j < S.len d:=by rw[<-hlen];exact(List.getElem?_eq_some_iff.1 hj).1
         obtain⟨k,hk,hk0,hk1⟩:=bytesR_at c2 j hjl
         obtain⟨u,hu,_,hr⟩:=hcell j 0 hjl (by omega)
         rw[hk]at hr
         have hr:u= .int .u8 k:=hr
         rw[c1,Nat.mul_one,Nat.add_zero,hr]at hu
         have hx:x=UInt8.ofNat k.toNat:=by
          unfold bytesOf at hj
          rw[List.getElem?_map,List.getElem?_range hjl]at hj
          simp[hk,u8Of]at hj
          exact hj.symm
         have hkx:(x.toNat:Int)=k:=by
          rw[hx]
          have:k.toNat < 256:=by omega
          simp[UInt8.toNat_ofNat',Nat.mod_eq_of_lt this]
          omega
         rw[hkx]
         exact hown.cells (g:=b) (by rw[hvv];rfl) j _ hu
        have hrun:=Lib.run_unsafeString_row (P:=P) w pt it o.type e hpt hcells b cur.size (by simp[World.shape?,hh]) (bytesOf S d) (fun e=>by rw[e]at hlen;simp at hlen;omega) (by rw[hlen,hcs,c1];omega) (by rw[hlen];exact hm.2.1) hcl
        obtain⟨f1,f2,f3,f4,_⟩:=freeze_other w b (bytesOf S d).length 0
        obtain⟨hp',hk'⟩:=h.burn (w':=w.freeze ⟨b,0,none⟩ (bytesOf S d).length) (by rw[hb];rfl) hg rfl f1 f2 f3 f4 (fun m hm=>(freeze_other w b (bytesOf S d).length m).2.2.2.2 hm)
        refine wp_val (v:= .string ⟨(bytesOf S d).toArray⟩) ?_ (hK _ _ _ (More.refl _) hk' (hp'.weaken fun n hn=> .inl hn) ⟨rfl,by rw[hlen];exact hm.2.1⟩)
        simp only[execOp,ho,resolve,hc,invoke,builtin,hargs,hat,Sem.run_bind,Sem.run_pure,Result.andThen_ok,List.map_toArray,List.map_cons,List.map_nil,hv,hy]
        rw[hlen]at hrun⊢
        rw[hrun]
        rfl
      ·cases k3
     ·cases c0
    ·cases c0
   ·cases hout
  ·cases hout
 ·rename_i n hex hey
  rw[hex]at hx
  rw[hey]at hy
  have hx:a.eval x= .pointer none:=hx
  have hy:a.eval y= .int .i64 n:=hy
  split at hout
  ·rename_i pt it hts
   have hat:c.argTypes= #[pt,it]:=by rw[<-Array.toList_inj];exact hts
   injection hout with hout
   subst hout
   have hp:n=0:=hp
   subst hp
   refine wp_same (v:= .string ⟨#[]⟩) ?_ h hK rfl ⟨rfl,by simp⟩
   simp only[execOp,ho,resolve,hc,invoke,builtin,hargs,hat,Sem.run_bind,Sem.run_pure,Result.andThen_ok,List.map_toArray,List.map_cons,List.map_nil,hx,hy,Lib.run_unsafeString_none]
   rfl
  ·cases hout
 ·cases hout
theorem sound_enter (hS:ShOk S){f:FuncId}{args:List (Sl D)}{vals:List Value}(hΓ:∀f ct,Γ f=some ct->CtOk P S f ct)(h:Hp S w0 N blk g al w)(hfr:∀n,fr<=n->n < fr+64->¬al n)
  (hargs:SlsRel S (Mset N blk g) w g args vals) (hrun:∀ct,CtOk P S f ct->(execOp a.eval o).run P w= .ok (.enter f vals.toArray) w) (hout:xCall Γ f blk args fr=some out) (hp:preD out.pre) (hK:Post S w0 N blk g al w fr out o.dst a K):o.wp P a w K Q:=by
 unfold xCall at hout
 split at hout
 ·cases hout
 ·rename_i ct hct
  have hok:=hΓ f ct hct
  have hrun:=hrun ct hok
  have fin:(Calls P f vals.toArray w fun e w'=>∃v g',e= .returned v/\More g g'/\Keeps (Mset N blk g) w (Mset N (updL blk out.blks) g') w'/\Hp S w0 N (updL blk out.blks) g' (fun n=>al n\/(fr<=n/\n < fr+64)) w'/\
    out.val.Rel S (Mset N (updL blk out.blks) g') w' g' v)->o.wp P a w K Q:=by
   intro hcall
   simp only[Oper.wp,hrun,Oper.upon_enter]
   refine hcall.mono ?_
   rintro e w' ⟨v,g',rfl,h1,h2,h3,h4⟩
   exact hK v w' g' h1 h2 h3 h4
  dsimp only at hout
  have hn:=hargs.norm
  generalize args.map Sl.norm=as at hn hout
  cases h1:callOn ct blk fr (as.map (Sl.view blk)) (addNew [] (as.flatMap Sl.owns))with
  | some out'=>
   rw[h1]at hout
   simp only[firstOf,Option.some.injEq]at hout
   subst hout
   refine fin (callOn_sound hS hok h hfr (fun ids bks hg hv=> ?_) (fun l hl=> ?_) (fun l hl=> ?_) h1 hp)
   ·refine SlsRel.view hS (vids:=addNew [] (as.flatMap Sl.owns)) h ⟨fun b hb=>(mset_sub hg b hb).1,fun l hl v b hh hgl hbl hb=> ?_⟩ (fun l hl=>(addNew_mem _ _ _).2 (.inr hl)) hn
    rcases(mset_sub hg b hb).2 with q | ⟨l',v',⟨q1,q2,q3,q4⟩ | ⟨q1,q2,q3,q4⟩⟩
    ·exact h.notN hh hgl hbl q
    ·have:=h.sep l l' v v' b hh q1 hgl q3 hbl q4
     subst this
     exact q2 hl
    ·have:=h.sep l l' v v' b hh q2 hgl q3 hbl q4
     subst this
     exact hv l hl q1
   ·exact sls_own hn (((addNew_mem _ _ _).1 hl).resolve_left (by simp))
   ·obtain⟨x,hx,hlx⟩:=List.mem_flatMap.1 (((addNew_mem _ _ _).1 hl).resolve_left (by simp))
    rcases sl_view (blk:=blk) hlx with q | q | q
    ·exact .inl q
    ·exact .inr (.inl q)
    ·exact .inr (.inr (List.mem_flatMap.2 ⟨_,List.mem_map.2 ⟨x,hx,rfl⟩,q⟩))
  | none=>
   rw[h1]at hout
   simp only[firstOf]at hout
   exact fin (callOn_sound (vids:=[]) hS hok h hfr (fun ids bks hg hv=>hn.less fun b hb=>(mset_sub hg b hb).1) (fun l hl=>by simp at hl) (fun l hl=>by simp at hl) hout hp)
theorem sound_callC (hS:ShOk S){c:Call}{fo:Operand}(ho:o.op= .call c)(hc:c.callee= .value fo)(hΓ:∀f ct,Γ f=some ct->CtOk P S f ct)(h:Hp S w0 N blk g al w)(hfr:∀n,fr<=n->n < fr+64->¬al n)
  (hs:∀t,(slot t).Rel S (Mset N blk g) w g (a.tmps.getD t undef)) (hout:xCallC Γ blk fr (opnd slot fo) (c.args.toList.map (opnd slot))=some out) (hp:preD out.pre) (hK:Post S w0 N blk g al w fr out o.dst a K):o.wp P a w K Q:=by
 have hfv:=opnd_rel hs fo
 unfold xCallC at hout
 split at hout
 ·rename_i f ag ps hex
  rw[hex]at hfv
  obtain⟨u,hu,hin⟩:∃u,a.eval fo= .func (.func f) #[u] #[]/\DlIn S (Mset N blk g) w ag ps u:=hfv
  split at hout
  ·rename_i x hx
   refine sound_enter hS (args:=x::c.args.toList.map (opnd slot)) (vals:=u::c.args.toList.map a.eval) hΓ h hfr ⟨slIn_rel hx hin,opnds_rel hs _⟩ (fun ct hok=> ?_) hout hp hK
   have hen:=hok.enters (u::c.args.toList.map a.eval).toArray w
   simp only[execOp,ho,resolve,hc,Deferred.ofValue,hu,Sem.run_bind,Sem.run_pure,Result.andThen_ok,invoke]
   have:(#[u]++c.args.map a.eval:Array Value)++ #[]=(u::c.args.toList.map a.eval).toArray:=by rw[<-Array.toList_inj];simp
   rw[this,hen]
  ·cases hout
 ·cases hout
theorem sound_new2 (hTy:∀t ty,T t=some ty->TyOk P t ty)(hΓ:∀f ct,Γ f=some ct->CtOk P S f ct)(hS:ShOk S)(h:Hp S w0 N blk g al w)(hfr:∀n,fr<=n->n < fr+64->¬al n)
  (hs:∀t,(slot t).Rel S (Mset N blk g) w g (a.tmps.getD t undef)) (hout:xNew T S Γ slot blk fr o.op=some out) (hp:preD out.pre) (hK:Post S w0 N blk g al w fr out o.dst a K):o.wp P a w K Q:=by
 have hr:=opnd_rel hs
 unfold xNew at hout
 split at hout
 ·rename_i t ho;exact sound_allocT ho hTy h hfr hout hK
 ·rename_i t x ho;exact sound_loadT ho hTy h (hr x) hout hK
 ·rename_i t x y ho;exact sound_storeT ho hTy h (hr x) (hr y) hout hK
 ·rename_i t x i ho;exact sound_addrC ho hTy h (hr x) (hr i) hout hp hK
 ·rename_i t x i ho;exact sound_indexC ho hTy h (hr x) (hr i) hout hp hK
 ·rename_i t ho;exact sound_makeMap hS ho h hfr hout hK
 ·rename_i t x lo hi ho;exact sound_sliceC hS ho hTy h hr hout hp hK
 ·rename_i t x i ok ho;exact sound_lookup hS ho hTy h (hr x) (hr i) hout hK
 ·rename_i t x i v ho;exact sound_mapPut hS (.inl ho) hTy h (hr x) (hr i) (hr v) hout hK
 ·rename_i t x i v ho;exact sound_mapPut hS (.inr ho) hTy h (hr x) (hr i) (hr v) hout hK
 ·rename_i t d x ho;exact sound_text hS ho hTy h (hr x) hout hp hK
 ·rename_i t x ho;exact sound_ifd ho hTy h (hr x) hout hK
 ·rename_i x st t ok ho;exact sound_assertD ho hTy h (hr x) hout hK
 ·rename_i op t x y yt ho;exact sound_nilC ho hTy h (hr x) (hr y) hout hK
 ·rename_i f first caps ho
  split at hout
  ·rename_i x h1 h2;exact sound_clo ho h1 h2 h (hr x) hout hK
  ·cases hout
 ·rename_i x ho
  split at hout
  ·rename_i e hex
   split at hout
   ·rename_i f ag ps
    have hx:=hr x
    rw[hex]at hx
    injection hout with hout
    subst hout
    refine wp_same (v:=a.eval x) ?_ h hK rfl hx
    obtain⟨u,hu,_⟩:=hx
    simp[execOp,ho,hu]
   ·cases hout
  ·cases hout
 ·rename_i c ho
  split at hout
  ·rename_i f hc;exact sound_callC hS ho hc hΓ h hfr hs hout hp hK
  ·rename_i hc
   split at hout
   ·rename_i x y hargs
    split at hout
    ·rename_i out' hx
     injection hout with hout
     subst hout
     exact sound_appendN ho hc hargs hTy h (hr x) (hr y) hx hK
    ·exact sound_appendS hS ho hc hargs hTy h hfr (hr x) (hr y) hout hp hK
   ·cases hout
  ·rename_i hc
   split at hout
   ·rename_i x hargs;exact sound_sliceData ho hc hargs h (hr x) hout hp hK
   ·cases hout
  ·rename_i hc
   split at hout
   ·rename_i x y hargs;exact sound_unsafeStr ho hc hargs hTy h (hr x) (hr y) hout hp hK
   ·cases hout
  ·cases hout
 ·cases hout
theorem sound_cool2 (hTy:∀t ty,T t=some ty->TyOk P t ty)(hΓ:∀f ct,Γ f=some ct->CtOk P S f ct)(hS:ShOk S)(h:Hp S w0 N blk g al w)(hfr:∀n,fr<=n->n < fr+64->¬al n)
  (hs:∀t,(slot t).Rel S (Mset N blk g) w g (a.tmps.getD t undef)) (hout:xCool2 T S Γ slot blk fr o.op=some out) (hp:preD out.pre) (hK:Post S w0 N blk g al w fr out o.dst a K):o.wp P a w K Q:=by
 unfold xCool2 at hout
 dsimp only at hout
 split at hout
 ·rename_i hc
  simp only[Bool.and_eq_true,List.all_eq_true]at hc
  split at hout
  ·rename_i out' hx
   injection hout with hout
   subst hout
   have hnd:(coolIds slot o.op).Nodup:=addNew_nodup _ _ List.nodup_nil
   obtain⟨h1,k1,s1,o1⟩:=Hp.coolAll hS (coolIds slot o.op) blk hnd h
   refine sound_new2 hTy hΓ hS h1 hfr (fun t=> ?_) hx hp (fun v w' g' m k hp' hr=> ?_)
   ·unfold coolS
    split
    ·rename_i ht
     have ht:=memB_iff.1 ht
     refine Sl.Rel.view (vids:=coolIds slot o.op) hS h ⟨?_,fun l hl v b hh hg hb=> ?_⟩ (fun l hl=>(addNew_mem _ _ _).2 (.inr (List.mem_flatMap.2 ⟨t,ht,hl⟩))) (hs t)
     ·rintro b (hb | ⟨n,u,q1,q2,q3⟩)
      ·exact .inl hb
      ·exact .inr ⟨n,u,s1 n q1,q2,q3⟩
     ·rintro(q | ⟨n,u,q1,q2,q3⟩)
      ·exact h.notN hh hg hb q
      ·have:=h.sep l n v u b hh (s1 n q1) hg q2 hb q3
       subst this
       rw[o1 l hl (hc.2 l hl)]at q1
       cases q1
    ·exact(hs t).keep k1 (More.refl _)
   ·have e:updL blk ((coolIds slot o.op).filterMap (iceOf blk)++out'.blks)=updL (updL blk ((coolIds slot o.op).filterMap (iceOf blk))) out'.blks:=updL_app _ _ _
    refine hK v w' g' m ?_ ?_ ?_
    ·rw[e];exact k1.comp k
    ·rw[e];exact hp'
    ·rw[e];exact hr
  ·cases hout
 ·cases hout
theorem sound_does (hTy:∀t ty,T t=some ty->TyOk P t ty)(hΓ:∀f ct,Γ f=some ct->CtOk P S f ct)(hS:ShOk S)(h:Hp S w0 N blk g al w)(hfr:∀n,fr<=n->n < fr+64->¬al n)
  (hs:∀t,(slot t).Rel S (Mset N blk g) w g (a.tmps.getD t undef)) (hout:Does T S Γ slot blk fr o.op out) (hp:preD out.pre) (hK:Post S w0 N blk g al w fr out o.dst a K):o.wp P a w K Q:=by
 rcases hout with hout | ⟨b,o1,o2,hx,rfl⟩
 ·unfold xOpR at hout
  split at hout
  ·rename_i out' hx
   injection hout with hout
   subst hout
   exact sound_new2 hTy hΓ hS h hfr hs hx hp hK
  ·split at hout
   ·rename_i out' hx
    injection hout with hout
    subst hout
    exact sound_cool2 hTy hΓ hS h hfr hs hx hp hK
   ·unfold xOpQ at hout
    split at hout
    ·rename_i t x ho;exact sound_range ho hTy h hfr (opnd_rel hs x) hout hK
    ·exact sound_opD hTy hΓ hS h hfr hs hout hp hK
 ·exact sound_next h hs hx hK
end
end Go.Vc

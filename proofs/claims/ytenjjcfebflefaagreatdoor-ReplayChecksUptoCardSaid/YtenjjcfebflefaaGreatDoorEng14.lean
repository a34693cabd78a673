/- Own engine: Vea, Veb, Vec, Veg, Veh, Vej. -/
import Derived.Test.YtenjjcfebflefaaGreatDoorEng13
import Derived.Lib.Bytealg
set_option linter.unusedVariables false
set_option linter.unusedSimpArgs false
namespace Go.Vc
open Go.RowKit
mutual
inductive U where
 | mk (sz:Nat) (rows:List (List UC))
 | map (ag:Bool) (kd:Nat) (z:List Pv) (kvs:List (Pv×List Pv))
inductive UC where
 | bool (b:Bool)
 | int (k:IntKind) (n:Int)
 | str (s:List UInt8)
 | dat (u:U)
 | Tz (v:Option BJ)
end
def U.size:U->Nat
 | .mk a _=>a
 | .map _ _ _ _=>0
def U.rows:U->List (List UC)
 | .mk _ r=>r
 | .map _ _ _ _=>[]
def U.DK:U->Option (Mp U)
 | .mk _ _=>none
 | .map c b z a=>if a.all (fun p=>Nat.beq p.1.kind b)then some ⟨b,c,z,a,fun k=>(AU k a).isSome,fun k=>((AU k a).getD z).map Pv.lf,fun k d=> .map c b z (OD k d a),a.length⟩else none
theorem aaw {V:Type}{a:Nat}{k:Pv}{v:V}(b:k.kind=a):∀l:List (Pv×V),l.all (fun p=>Nat.beq p.1.kind a)=true->(OD k v l).all (fun p=>Nat.beq p.1.kind a)=true
 | [],_=>by simp[OD,b]
 | p::r,h=>by
  simp only[Qcj,jA]at h;unfold OD;split
  ·grind
  ·simp only[Qcj,jA];exact⟨h.1,aaw b r h.2⟩
def UC.lf:UC->Lf U
 | .bool b=> .bool b
 | .int k n=> .int k n
 | .str s=> .str s
 | .dat u=> .dat u
 | .Tz v=> .Tz v
theorem UC.data (c:UC):c.lf.jY=true:=by cases c<;>rfl
def aDZ (k:Nat):Lf U->Option UC
 | .bool b=>some (.bool b)
 | .val (.bool b)=>some (.bool b)
 | .int k n=>some (.int k n)
 | .str s=>some (.str s)
 | .dat u=>some (.dat u)
 | .Tz v=>some (.Tz v)
 | .val (.slice none 0 0)=>some (.dat (.mk k []))
 | _=>none
def MJ:List Nat->List (Lf U)->Option (List UC)
 | [],[]=>some []
 | k::ks,x::a=>(match aDZ k x,MJ ks a with
  | some c,some cs=>some (c::cs)
  | _,_=>none)
 | _,_=>none
def FD (r:List (List UC))(i j:Nat):Lf U:=
 match r[i]? with
 | some cs=>(match cs[j]? with
  | some c=>c.lf
  | none=> .bool false)
 | none=> .bool false
def chunk (a:List Nat):Nat->List (Lf U)->Option (List (List UC))
 | 0,[]=>some []
 | 0,_::_=>none
 | n+1,b=>if Nat.ble a.length b.length then(match MJ a (b.take a.length),chunk a n (b.drop a.length)with
  | some r,some c=>some (r::c)
  | _,_=>none)else none
def acJ:List UC->List Nat
 | []=>[]
 | .dat u::r=>u.size::acJ r
 | _::r=>0::acJ r
def aEs (a:Nat)(r:List (List UC))(i j:Nat)(b:List (Lf U)):Option U:=
 match r[i]? with
 | none=>none
 | some cs=>if Nat.ble (j+b.length) a && Nat.beq cs.length a then(match MJ (((acJ cs).drop j).take b.length) b with
  | some c=>some (.mk a (r.set i (cs.take j++(c++cs.drop (j+c.length)))))
  | none=>none)else none
def FW (ks:TypeId->Option (List Nat))(gl:Nat->Option U)(mk:TypeId->Option (Bool×Nat×List Pv):=fun _=>none):Sh U where
 size:=U.size
 len:=fun u=>u.rows.length
 cell:=fun u i j=>FD u.rows i j
 make:=fun e n xs=>match ks e with
  | some k=>(match chunk k n xs with
   | some r=>some (.mk k.length r)
   | none=>none)
  | none=>none
 zero:=fun e n xs=>match ks e with
  | some k=>(match MJ k xs with
   | some r=>some (.mk k.length (List.replicate n r))
   | none=>none)
  | none=>none
 set:=fun u i j xs=>aEs u.size u.rows i j xs
 cat:=fun a b=>if Nat.beq a.size b.size then some (.mk a.size (a.rows++b.rows))else none
 sub:=fun u i j=>match u with
  | .mk sz rows=>some (.mk sz ((rows.take j).drop i))
  | .map _ _ _ _=>none
 Po:=fun i=>match gl i with
  | some (.mk sz rows)=>some (.mk sz rows)
  | _=>none
 run:=true
 mp:=U.DK
 asP:=fun t=>match mk t with
  | some (ag,kd,z)=>some (.map ag kd z [])
  | none=>none
 text:=fun _ s=>some (.mk 1 (s.map fun b=>[.int .u8 b.toNat]))
section
variable {ks:TypeId->Option (List Nat)}{gl:Nat->Option U}{mk:TypeId->Option (Bool×Nat×List Pv)}
theorem uH {a:Nat}{r:List (List UC)}:(U.mk a r).rows=r:=rfl
theorem aAl {k:Nat}{x:Lf U}{c:UC}(h:aDZ k x=some c):x.Le (FW ks gl mk) c.lf:=by
 unfold aDZ at h;split at h<;>first | (injection h with h;subst h;exact .inl rfl) | skip
 ·injection h with h;subst h;exact .inr (.inr (.inl ⟨_,rfl,rfl⟩))
 ·injection h with h;subst h;exact .inr (.inl ⟨rfl,_,rfl,rfl,rfl⟩)
 ·cases h
theorem Np:∀{k:List Nat} {a:List (Lf U)} {cs:List UC},MJ k a=some cs->cs.length=k.length/\a.length=k.length/\∀(j:Nat) (x:Lf U),a[j]? =some x->∃c,cs[j]? =some c/\x.Le (FW ks gl mk) c.lf
 | [],[],cs,h=>by simp[MJ]at h;subst h;simp
 | k::kr,x::a,cs,h=>by
  unfold MJ at h;split at h
  ·rename_i c i g f;injection h with h
   subst h;obtain⟨d,e,l⟩:=Np f;refine⟨by simp[d],by simp[e],fun j y b=> ?_⟩;cases j with
   | zero=>simp at b;subst b;exact⟨c,rfl,aAl g⟩
   | succ j=>grind
  ·cases h
 | [],_::_,cs,h=>by simp[MJ]at h
 | _::_,[],cs,h=>by simp[MJ]at h
theorem agI {k:List Nat}:∀{n:Nat} {a:List (Lf U)} {r:List (List UC)},chunk k n a=some r->r.length=n/\a.length=n*k.length/\∀i j,i < n->j < k.length->∃x,a[i*k.length+j]? =some x/\x.Le (FW ks gl mk) (FD r i j)
 | 0,[],r,h=>by simp[chunk]at h;grind
 | 0,_::_,r,h=>by simp[chunk]at h
 | n+1,a,r,h=>by
  unfold chunk at h;split at h
  ·rename_i e;have e:=Qa0 e;split at h
   ·rename_i c u p l;injection h with h
    subst h;obtain⟨m,v,q⟩:=agI l;obtain⟨z,t,o⟩:=Np (ks:=ks) (gl:=gl) (mk:=mk) p;have w:a.length=k.length+n*k.length:=by
     grind
    refine⟨by simp[m],by grind,fun i j y g=> ?_⟩;cases i with
    | zero=>
     rw[Nat.zero_mul,zM];have d:j < (a.take k.length).length:=by omega
     obtain⟨s,f,b⟩:=o j _ (Qav d);refine⟨(a.take k.length)[j],by grind,?_⟩;simp only[FD,Qch,f];exact b
    | succ i=>
     obtain⟨x,f,b⟩:=q i j au g;refine⟨x,?_,?_⟩
     ·grind
     ·simpa[FD]using b
   ·cases h
  ·cases h
theorem E5:iZ (FW ks gl mk) where
 ZO:=fun e n cs d h=>by
  simp only[FW]at h;split at h
  ·split at h
   ·injection h with h;subst h;rfl
   ·cases h
  ·cases h
 amO:=fun e n zs d h=>by
  simp only[FW]at h;split at h
  ·split at h
   ·injection h with h;subst h;rfl
   ·cases h
  ·cases h
 aDp:=fun d i j xs d' h _=>by
  simp only[FW]at h;unfold aEs at h;split at h
  ·cases h
  ·split at h
   ·split at h
    ·injection h with h;subst h;rfl
    ·cases h
   ·cases h
 ZN:=fun d1 d2 d h=>by
  simp only[FW]at h;split at h
  ·injection h with h;subst h;rfl
  ·cases h
 Ht:=fun d i j d' h=>by
  simp only[FW]at h;split at h
  ·injection h with h;subst h;exact⟨rfl,rfl⟩
  ·cases h
 aGs:=fun e s d h=>by
  simp only[FW]at h;injection h with h;subst h;rfl
 zJ:=fun d m h=>by
  cases d with
  | mk sz r=>exact nomatch h
  | map ag kd z kvs=>
   refine⟨rfl,rfl,?_⟩;have h:(if kvs.all (fun p=>Nat.beq p.1.kind kd)then _ else none)=some m:=h;split at h
   ·rename_i hk;injection h with h
    subst h;refine⟨fun p hp=>Qa (Qbd.1 hk p hp),fun _ _=>rfl,fun _ _=>rfl,fun k vs hkk _=> ?_,rfl⟩;refine⟨_,nI (aaw hkk kvs hk),rfl,rfl⟩
   ·cases h
 ayW:=fun t d h=>by
  simp only[FW]at h;split at h
  ·injection h with h;subst h;exact⟨_,rfl,rfl⟩
  ·cases h
 aGr:=fun i d h=>by
  simp only[FW]at h;split at h
  ·injection h with h;subst h;rfl
  ·cases h
 make:=fun e n cs d h=>by
  simp only[FW]at h;split at h
  ·rename_i k hk;split at h
   ·rename_i r hr;injection h with h
    subst h;obtain⟨h1,h2,h3⟩:=agI (ks:=ks) (gl:=gl) (mk:=mk) hr;exact⟨h1,h2,fun i j hi hj=>h3 i j hi hj⟩
   ·cases h
  ·cases h
 data:=fun d i j hi hj=>by
  simp only[FW,FD];split
  ·split
   ·exact UC.data _
   ·rfl
  ·rfl
 zero:=fun e n zs d h=>by
  simp only[FW]at h;split at h
  ·rename_i k hk;split at h
   ·rename_i r hr;injection h with h
    subst h;obtain⟨h1,h2,h3⟩:=Np (ks:=ks) (gl:=gl) (mk:=mk) hr;refine⟨by simp[FW,uH],h2,fun i j hi hj=> ?_⟩;have hj:j < k.length:=hj;obtain⟨c,h4,h5⟩:=h3 j _ (Qav (show j < zs.length by omega));refine⟨zs[j],Qav au,?_⟩;simp only[FW,FD,uH];rw[List.getElem?_replicate,nI hi];simp only[h4];exact h5
   ·cases h
  ·cases h
 set:=fun d i j xs d' h hi=>by
  simp only[FW]at h hi;unfold aEs at h;split at h
  ·cases h
  ·rename_i cs hcs;split at h
   ·rename_i hc;simp only[jA]at hc;have c1:=Qa0 hc.1;have c2:=Qa hc.2;split at h
    ·rename_i ys hys;injection h with h
     subst h;obtain⟨h1,h2,h3⟩:=Np (ks:=ks) (gl:=gl) (mk:=mk) hys;have hyx:ys.length=xs.length:=by omega
     refine⟨rfl,by simp[FW,uH],fun i' j' hi' hj'=>⟨fun⟨e,g1,g2⟩=> ?_,fun hne=> ?_⟩⟩
     ·subst e;obtain⟨c,h4,h5⟩:=h3 (j' - j) _ (Qav (show j' - j < xs.length by omega));refine⟨xs[j' - j]' au,Qav au,?_⟩;simp only[FW,FD,uH];rw[List.getElem?_set_self (show i' < d.rows.length from hi')];have:(cs.take j++(ys++cs.drop (j+ys.length)))[j']? =some c:=by
       grind
      simp only[this];exact h5
     ·simp only[FW,FD,uH];by_cases e:i'=i
      ·subst e;rw[List.getElem?_set_self (show i' < d.rows.length from hi'),hcs]
       grind
      grind
    ·cases h
   ·cases h
 cat:=fun d1 d2 d h=>by
  simp only[FW]at h;split at h
  ·rename_i hs;have hs:=Qa hs;injection h with h
   subst h;refine⟨rfl,hs.symm,by simp[FW,uH],fun i j hi=> ?_,fun i j hi=> ?_⟩
   ·simp only[FW,FD,uH];rw[Qc4 (show i < d1.rows.length from hi)]
   ·simp only[FW,FD,uH]
    grind
  ·cases h
 sub:=fun d i j d' h hij hj=>by
  cases d with
  | map ag kd z kvs=>exact nomatch h
  | mk sz rows=>
  simp only[FW]at h hj;injection h with h
  subst h;have hj:j<=rows.length:=hj;refine⟨rfl,?_,fun k c hk=> ?_⟩
  ·show((rows.take j).drop i).length=j - i
   grind
  ·simp only[FW,FD,uH]
   grind
 text:=fun e s d h=>by
  simp only[FW]at h;injection h with h
  subst h;refine⟨rfl,by simp[FW,uH],fun i hi=> ?_⟩;simp only[FW,FD,uH];rw[Qb4,Qav hi];simp[UC.lf,List.getD,hi]
end
end Go.Vc
namespace Go.Vc
open Go.RowKit
def tyU (P:Program)(t:TypeId):Option Ty:=
 match aqU P t with
 | some a=>if a.lit then none else some {a with lit:=true}
 | none=>none
theorem aEO {P:Program}:∀t a,tyU P t=some a->eP P t a:=fun t a h=>by
 unfold tyU at h;split at h
 ·rename_i b d;split at h
  ·cases h
  ·rename_i c;injection h with h
   subst h;unfold eP;rw[d];cases b;simp at c;simp[c]
 ·cases h
def alV (P:Program):Nat->TypeId->List Nat
 | 0,_=>[]
 | k+1,t=>match P.underlying t with
  | some (.struct a)=>a.toList.flatMap fun f=>alV P k f.type
  | some (.array n e)=>(List.range n).flatMap fun _=>alV P k e
  | some (.slice e)=>(match P.info? e with
   | some i=>[i.size]
   | none=>[0])
  | _=>[0]
def ksU (P:Program)(e:TypeId):Option (List Nat):=some (alV P 30 e)
def pvV:Value->Option Pv
 | .bool b=>some (.bool b)
 | .int k n=>some (.int k n)
 | .string s=>some (.str s.data.toList)
 | _=>none
def aHI:List Value->Option (List Pv)
 | []=>some []
 | v::a=>(match pvV v,aHI a with
  | some p,some b=>some (p::b)
  | _,_=>none)
def mkU (P:Program)(t:TypeId):Option (Bool×Nat×List Pv):=
 match P.underlying t with
 | some (.map k v)=>(match aqU P k,aqU P v with
  | some b,some a=>(match aHI a.zero with
   | some z=>some (a.zag,b.kind,z)
   | none=>none)
  | _,_=>none)
 | _=>none
end Go.Vc
namespace Go.Vc
open Go.RowKit
section
variable {D:Type}{P:Program}{S:Sh D}
def Bl (g:List (Sl D)->Option (Sl D)):Ct D:=fun args a=>
 match a,g args with
 | [],some r=>some (none,r,[],[])
 | _,_=>none
theorem an5:xR (D:=D) [] [] []=lQ []:=by
 rfl
theorem abC {f:FuncId}{g:List (Sl D)->Option (Sl D)}(j:∀(args:Array Value) (w:World),(callFunc f args).run P w= .ok (.enter f args) w)
  (h:∀(M:Nat->Prop) (w:World) (c:Nat->Option Value) (args:List (Sl D)) (b:List Value) (r:Sl D),g args=some r->ik S M w c args b->∃v,(Calls P f b.toArray w fun e i=>e= .returned v/\i=w)/\r.Rel S M w c v):fK P S f (Bl g):=by
 refine⟨j,fun X N c w args y B p r o x n d a m=> ?_⟩;unfold Bl at a;split at a
 ·rename_i A t;injection a with a
  injection a with z a
  injection a with q a
  injection a with u l
  subst q u l;obtain⟨v,s,k⟩:=h _ _ _ _ _ _ t d;refine s.mono ?_;rintro e i ⟨rfl,rfl⟩;refine⟨v,c,rfl,fun _ _ h=>h,?_,?_⟩
  ·rw[an5];exact n.weaken fun _ _=>trivial
  ·rw[an5];exact k
 ·cases a
def TT (a:TypeId):Ct D:=fun args b=>
 match args,b with
 | [.one (.lf (.ptr 0 0))], .tc t [c]::r=>if Nat.beq t a then some (none, .wU [],[(0, .tc t [c])],(List.range (r.length+1)).filter fun i=> !Nat.beq i 0)else none
 | _,_=>none
theorem Zi {d a:Bk D}{r:List (Bk D)}:xR [(0,a)] ((List.range (r.length+1)).filter fun i=> !Nat.beq i 0) (d::r)=upd (lQ (d::r)) 0 (some a):=by
 funext i;simp only[xR,kX,lQ];by_cases b:i=0
 ·subst b;simp[upd_same]
 ·have g:¬(Nat.beq 0 i=true):=fun e=>b (Qa e).symm
  rw[kT g,bU _ _ _ _ b];dsimp only;by_cases c:i < r.length+1
  ·have f:(!Nat.beq i 0)=true:=by
    cases e:Nat.beq i 0 with
    | true=>simp_all
    | false=>rfl
   rw[nI (gJ.2 (ZT.2 ⟨Qcv.2 c,f⟩))];rfl
  ·rw[kT (fun h=>c (Qcv.1 (ZT.1 (gJ.1 h)).1))];exact(Qd8 (by simpa using c)).symm
theorem amg {f:FuncId}{C:TypeId}(A:∀(args:Array Value) (w:World),(callFunc f args).run P w= .ok (.enter f args) w)
  (K:∀(b:Nat) (w:World),w.cell? ⟨b,0,none⟩=some (.pointer (some ⟨b,0,none⟩))->Calls P f #[.pointer (some ⟨b,0,none⟩)] w fun e w'=>e= .returned (.tuple #[])/\w'=w)
  (H:∀(b:Nat) (w:World),w.cell? ⟨b,0,none⟩=some (.pointer none)->w.shape? b=some (C,2)->w.frozen? ⟨b,0,none⟩=false->Calls P f #[.pointer (some ⟨b,0,none⟩)] w fun e w'=>e= .returned (.tuple #[])/\w'=w.setCell ⟨b,0,none⟩ (.pointer (some ⟨b,0,none⟩))):
  fK P S f (TT C):=by
 refine⟨A,fun X N B w args R W p r I Q q d c G=> ?_⟩;unfold TT at c;split at c
 ·rename_i t x T;obtain⟨v,z,b,L,rfl,E,⟨u0,g,y⟩,j⟩:=q.dD 0 (.tc t [x]) rfl;have k:args=[.pointer (some ⟨b,0,none⟩)]:=by
   match args,d with
   | [a],d=>
    obtain⟨V,O,Y⟩:=d.1
    grind
  subst k;match L,j,g with
  | [D],j,g=>
  have m:w.cell? ⟨b,0,none⟩=some u0:=by rw[cell_of g];rfl
  split at c
  ·rename_i i;have i:=Qa i;subst i;injection c with c
   injection c with U c
   injection c with J c
   injection c with M F
   subst J M F;rcases y with rfl | rfl
   ·refine(H b w m (by simp[World.shape?,g]) (by simp[World.frozen?,g])).mono ?_;rintro e w' ⟨rfl,rfl⟩;refine⟨_,B,rfl,fun _ _ h=>h,?_,[],rfl,trivial⟩;rw[Zi];have o:∀n,n≠b->(w.setCell ⟨b,0,none⟩ (.pointer (some ⟨b,0,none⟩))).heap[n]? =w.heap[n]? :=fun n Z=>by
     simp only[World.setCell]
     grind
    obtain⟨s,_⟩:=q.write (w':=w.setCell ⟨b,0,none⟩ (.pointer (some ⟨b,0,none⟩))) (bk':= .tc t [x]) (l:=0) (b:=b) rfl rfl rfl z rfl rfl rfl rfl (by simp_all) o
     (fun u=>⟨b,[D],rfl,E,⟨.pointer (some ⟨b,0,none⟩),by simp[World.setCell,Qd5,g], .inr rfl⟩,j.1.keep u (More.refl _),trivial⟩)
    exact s.weaken fun _ _=>trivial
   ·refine(K b w m).mono ?_;rintro e w' ⟨rfl,rfl⟩;refine⟨_,B,rfl,fun _ _ h=>h,?_,[],rfl,trivial⟩;rw[Zi];obtain⟨s,_⟩:=q.write (w':=w') (bk':= .tc t [x]) (l:=0) (b:=b) rfl rfl rfl z rfl rfl rfl rfl rfl (fun _ _=>rfl)
     (fun u=>⟨b,[D],rfl,E,⟨_,g, .inr rfl⟩,j.1.keep u (More.refl _),trivial⟩)
    exact s.weaken fun _ _=>trivial
  ·cases c
 ·cases c
end
def cU (a:Nat):kF U (List (List UC)):=⟨1,fun r=>[.dat (.mk a r)],fun b=>match b with
 | [.dat (.mk s r)]=>if Nat.beq s a then some r else none
 | [.val (.slice none 0 0)]=>some []
 | _=>none⟩
instance aIe {ks:TypeId->Option (List Nat)} {gl:Nat->Option U} {mk:TypeId->Option (Bool×Nat×List Pv)} {sz:Nat}:dK (FW ks gl mk) (cU sz) where
 ok:=fun xs a h=>by
  simp only[cU]at h;split at h
  ·rename_i s r;split at h
   ·rename_i hs;injection h with h
    subst h;rw[Qa hs];exact⟨.inl rfl,rfl,trivial⟩
   ·cases h
  ·injection h with h
   subst h;exact⟨.inr (.inl ⟨rfl,_,rfl,rfl,rfl⟩),rfl,trivial⟩
  ·cases h
 len:=fun a=>rfl
 data:=fun a x hx=>by simp[cU]at hx;subst hx;rfl
def cV (a:Nat):kF U (List (List UC)):=⟨1,fun r=>[.dat (.mk a r)],fun b=>match b with
 | [.dat (.mk s r)]=>if Nat.beq s a then some r else none
 | _=>none⟩
instance aJM {ks:TypeId->Option (List Nat)} {gl:Nat->Option U} {mk:TypeId->Option (Bool×Nat×List Pv)} {sz:Nat}:dK (FW ks gl mk) (cV sz) where
 ok:=fun xs a h=>by
  simp only[cV]at h;split at h
  ·rename_i s r;split at h
   ·rename_i hs;injection h with h
    subst h;rw[Qa hs];exact⟨.inl rfl,rfl,trivial⟩
   ·cases h
  ·cases h
 len:=fun a=>rfl
 data:=fun a x hx=>by simp[cV]at hx;subst hx;rfl
section
variable {D:Type}{P:Program}{S:Sh D}
def axt (b:uV D)(g:FT D)(k:Nat)(c:List Nat)(i:b.A->Bool)(f:b.A->g.X):Ct D:=fun args e=>
 match b.dec args e with
 | none=>none
 | some a=>if i a then(match xK b g k c (fun _=>none) f args e with
  | some (_,r,d,h)=>some (none,r,d,h)
  | none=>none)else none
theorem avb {f:FuncId}{e:uV D}{i:FT D}{k:Nat}{c:List Nat}{g:e.A->Bool}{l:e.A->i.X}(h:fK P S f (xK e i k c (fun a=>some (g a=true)) l)):fK P S f (axt e i k c g l):=by
 refine⟨h.enters,fun X N y w args n A p r u E t j b s=> ?_⟩;unfold axt at b;split at b
 ·cases b
 rename_i a G;split at b
 ·rename_i o;split at b
  ·rename_i F z d m B;injection b with b
   injection b with v b
   injection b with x b
   injection b with C q
   subst v x C q;refine h.calls X N y w args n A (some (dq (g a=true))) z d m t j ?_ o;unfold xK at B⊢
   grind
  grind
 ·cases b
end
def t0 (P:Program)(t:TypeId):Option Ty:=
 match aqU P t with
 | some a=>if a.lit then none else some a
 | none=>none
theorem aCd {P:Program}:∀t a,t0 P t=some a->eP P t a:=fun t a h=>by
 unfold t0 at h;split at h
 ·rename_i b c;split at h
  ·cases h
  ·rename_i d;injection h with h
   subst h;unfold eP;rw[c];cases b
   grind
 ·cases h
def aeb (a:Nat):uV U:=args (a1 (df (cV a)))
def ac7 (a:Nat)(e:TypeId):FT U:=shr [.slot 0 false [some e]] (l1 (cU a))
def UI (bytes:Nat)(r:List (List UC)):Pg (List (List UC)):= .unk false (fun b=>b=true->r.length=0) (.ret []) (.obD (dE (0+r.length) bytes) inferInstance (.ret r))
theorem auh {bytes:Nat}{r:List (List UC)}(h:dE (0+r.length) bytes):Is (UI bytes r)/\(UI bytes r).val=r:=
 ⟨auI ⟨false,fun e=>by cases e⟩ (fun a=>⟨fun _ _ _=>rfl,by simp_all⟩) (fun _=>⟨fun R' f e=>by simp only[Pg.runK,zi h];rfl,rfl⟩),rfl⟩
def qP (a bytes:Nat)(e:TypeId):Ct U:=axt (aeb a) (ac7 a e) 1 [] (fun r=>decide (dE (0+r.length) bytes)) (fun r=>r)
theorem vX {P:Program}{g:TypeId->Option (List Nat)}{j:Nat->Option U}{k:TypeId->Option (Bool×Nat×List Pv)}(d:P.follows .mixedOrders=true){f:FuncId}{b:Func}{n a bytes:Nat}{e:TypeId}(o:P.funcs[f]? =some b)(p:b.ntmps=n)(q:1<=n)(l:y_ b=true)(m:b.results.toList.length=1)
  (i:∀r c,(UI bytes r).run c=(yV ⟨P,FW g j k,t0 P,d,aCd,E5⟩ (fun _=>none) (fun _=>none) (aeb a) (ac7 a e) 0 [] b n r).run c):fK P (FW g j k) f (qP a bytes e):=by
 refine avb ?_;exact ajH (Z:=⟨P,FW g j k,t0 P,d,aCd,E5⟩) (Γ:=fun _=>none) (fun _ _ h=>by cases h) (J:=[]) (AS:=aeb a) (RS:=ac7 a e) (fU:=0) (n:=n) (keep:=[]) (oP (n:=n) (Nat.ble_eq_true_of_le q)) (awk (aCR aIe)) o p l 1 m (UI bytes) (fun r=>some (decide (dE (0+r.length) bytes)=true)) (fun r c _=>i r c) (fun r=>r) fun r s=>auh (EU s)
end Go.Vc
namespace Go.Vc
open Go.RowKit
def RI:List UInt8->List UInt8->Bool
 | [],[]=>true
 | a::r,b::c=>Nat.beq a.toNat b.toNat && RI r c
 | _,_=>false
theorem Dj:∀{a b:List UInt8},RI a b=true->a=b
 | [],[],_=>rfl
 | a::r,b::c,h=>by
  simp only[RI,jA]at h;rw[Qcn.1 (Qa h.1),Dj h.2]
 | [],_::_,h=>by cases h
 | _::_,[],h=>by cases h
def ikN:IntKind->Nat
 | .i8=>0 | .i16=>1 | .i32=>2 | .i64=>3 | .u8=>4 | .u16=>5 | .u32=>6 | .u64=>7
theorem afe {a b:IntKind}(h:Nat.beq (ikN a) (ikN b)=true):a=b:=by
 cases a<;>cases b<;>first | rfl | cases h
def ahM:Int->Int->Bool
 | .ofNat a, .ofNat b=>Nat.beq a b
 | .negSucc a, .negSucc b=>Nat.beq a b
 | _,_=>false
theorem OL {a b:Int}(h:ahM a b=true):a=b:=by
 cases a<;>cases b<;>first | cases h | rw[Qa h]
def xG:Bool->Bool->Bool
 | true,true=>true
 | false,false=>true
 | _,_=>false
theorem oM {a b:Bool}(h:xG a b=true):a=b:=by cases a<;>cases b<;>first | rfl | cases h
def ar0:Pv->Pv->Bool
 | .bool a, .bool b=>xG a b
 | .int k n, .int d e=>Nat.beq (ikN k) (ikN d) && ahM n e
 | .str s, .str c=>RI s c
 | _,_=>false
theorem Uc {a b:Pv}(h:ar0 a b=true):a=b:=by
 cases a<;>cases b<;>first | cases h | skip
 ·rw[oM h]
 ·simp only[ar0,jA]at h;rw[afe h.1,OL h.2]
 ·rw[Dj h]
def ve {A:Type}(f:A->A->Bool):List A->List A->Bool
 | [],[]=>true
 | a::r,b::c=>f a b && ve f r c
 | _,_=>false
theorem lS {A:Type}{f:A->A->Bool}(c:∀{a b},f a b=true->a=b):∀{a b:List A},ve f a b=true->a=b
 | [],[],_=>rfl
 | a::r,b::d,h=>by
  simp only[ve,jA]at h;rw[c h.1,lS c h.2]
 | [],_::_,h=>by cases h
 | _::_,[],h=>by cases h
def anv:Option BJ->Option BJ->Bool
 | none,none=>true
 | some ⟨t,g,c⟩,some ⟨b,g',a⟩=>Nat.beq t b && (xG g g' && ve ar0 c a)
 | _,_=>false
theorem ahF {a b:Option BJ}(h:anv a b=true):a=b:=by
 cases a with
 | none=>cases b with
  | none=>rfl
  | some y=>cases h
 | some x=>
  cases b with
  | none=>cases h
  | some y=>
   cases x;cases y;simp only[anv,jA]at h;rw[Qa h.1,oM h.2.1,lS Uc h.2.2]
def aC2:List (Pv×List Pv)->List (Pv×List Pv)->Bool:=ve fun p q=>ar0 p.1 q.1 && ve ar0 p.2 q.2
theorem axc {a b:List (Pv×List Pv)}(h:aC2 a b=true):a=b:=lS (fun{p q} h=>by
 simp only[jA]at h;exact Qdu (Uc h.1) (lS Uc h.2)) h
mutual
def uBq:U->U->Bool
 | .mk s r, .mk c g=>Nat.beq s c && QI r g
 | .map a k z l, .map e d f b=>xG a e && (Nat.beq k d && (ve ar0 z f && aC2 l b))
 | _,_=>false
 termination_by structural a=>a
def QI:List (List UC)->List (List UC)->Bool
 | [],[]=>true
 | a::r,b::c=>Je a b && QI r c
 | _,_=>false
 termination_by structural a=>a
def Je:List UC->List UC->Bool
 | [],[]=>true
 | a::r,b::c=>ajS a b && Je r c
 | _,_=>false
 termination_by structural a=>a
def ajS:UC->UC->Bool
 | .bool a, .bool b=>xG a b
 | .int k n, .int d f=>Nat.beq (ikN k) (ikN d) && ahM n f
 | .str s, .str c=>RI s c
 | .dat u, .dat e=>uBq u e
 | .Tz v, .Tz g=>anv v g
 | _,_=>false
 termination_by structural a=>a
end
mutual
theorem He:∀{a b:U},uBq a b=true->a=b
 | .mk s r, .mk d i,h=>by
  simp only[uBq,jA]at h;rw[Qa h.1,abk h.2]
 | .map a k z l, .map f e g c,h=>by
  simp only[uBq,jA]at h;rw[oM h.1,Qa h.2.1,lS Uc h.2.2.1,axc h.2.2.2]
 | .mk _ _, .map _ _ _ _,h=>by simp[uBq]at h
 | .map _ _ _ _, .mk _ _,h=>by simp[uBq]at h
theorem abk:∀{a b:List (List UC)},QI a b=true->a=b
 | [],[],_=>rfl
 | a::r,b::c,h=>by
  simp only[QI,jA]at h;rw[W9 h.1,abk h.2]
 | [],_::_,h=>by simp[QI]at h
 | _::_,[],h=>by simp[QI]at h
theorem W9:∀{a b:List UC},Je a b=true->a=b
 | [],[],_=>rfl
 | a::r,b::c,h=>by
  simp only[Je,jA]at h;rw[aBe h.1,W9 h.2]
 | [],_::_,h=>by simp[Je]at h
 | _::_,[],h=>by simp[Je]at h
theorem aBe:∀{a b:UC},ajS a b=true->a=b
 | .bool a,b,h=>by
  cases b<;>simp only[ajS]at h<;>first | rw[oM h] | cases h
 | .int k n,b,h=>by
  cases b<;>simp only[ajS,jA]at h<;>first | rw[afe h.1,OL h.2] | cases h
 | .str s,b,h=>by
  cases b<;>simp only[ajS]at h<;>first | rw[Dj h] | cases h
 | .dat u,b,h=>by
  cases b<;>simp only[ajS]at h<;>first | rw[He h] | cases h
 | .Tz v,b,h=>by
  cases b<;>simp only[ajS]at h<;>first | rw[ahF h] | cases h
end
def aAe:Dl U->Dl U->Bool
 | .bool a, .bool b=>xG a b
 | .int k n, .int d f=>Nat.beq (ikN k) (ikN d) && ahM n f
 | .str s, .str c=>RI s c
 | .dat u, .dat e=>uBq u e
 | .ayX, .ayX=>true
 | _,_=>false
theorem aoC {a b:Dl U}(h:aAe a b=true):a=b:=by
 cases a<;>cases b<;>first | cases h | skip
 ·rw[oM h]
 ·simp only[aAe,jA]at h;rw[afe h.1,OL h.2]
 ·rw[Dj h]
 ·rw[He h]
 ·rfl
def awg:Xt U->Xt U->Bool
 | .ifd t g b, .ifd c g' a=>Nat.beq t c && (xG g g' && ve aAe b a)
 | .clo t g b, .clo c g' a=>Nat.beq t c && (xG g g' && ve aAe b a)
 | .clip d, .clip e=>uBq d e
 | _,_=>false
theorem aBs {a b:Xt U}(h:awg a b=true):a=b:=by
 cases a<;>cases b<;>first | cases h | skip
 ·simp only[awg,jA]at h;rw[Qa h.1,oM h.2.1,lS aoC h.2.2]
 ·simp only[awg,jA]at h;rw[Qa h.1,oM h.2.1,lS aoC h.2.2]
 ·simp only[awg]at h;rw[He h]
def ayB:Value->Value->Bool
 | .bool a, .bool b=>xG a b
 | .pointer none, .pointer none=>true
 | .slice none n m, .slice none d c=>Nat.beq n d && Nat.beq m c
 | .map none, .map none=>true
 | .nilFunc, .nilFunc=>true
 | .nilIface, .nilIface=>true
 | _,_=>false
theorem ays {a b:Value}(h:ayB a b=true):a=b:=by
 unfold ayB at h;split at h
 ·rw[oM h]
 ·rfl
 ·simp_all
 ·rfl
 ·rfl
 ·rfl
 ·cases h
def as2 (a b:Nat):Bool:=Nat.beq a b
theorem afU {a b:Nat}(h:as2 a b=true):a=b:=Qa h
def ass:Lf U->Lf U->Bool
 | .val a, .val b=>ayB a b
 | .bool a, .bool b=>xG a b
 | .int k n, .int p t=>Nat.beq (ikN k) (ikN p) && ahM n t
 | .str s, .str q=>RI s q
 | .ptr l o, .ptr d o'=>Nat.beq l d && Nat.beq o o'
 | .dat u, .dat m=>uBq u m
 | .elt u i j, .elt m g h=>Nat.beq i g && (Nat.beq j h && uBq u m)
 | .fn f c, .fn x r=>Nat.beq f x && ve as2 c r
 | .own l, .own d=>Nat.beq l d
 | .opt l i j k, .opt d g h p=>Nat.beq l d && (Nat.beq i g && (Nat.beq j h && Nat.beq k p))
 | .glb i, .glb g=>Nat.beq i g
 | .Tz v, .Tz w=>anv v w
 | .xt e, .xt y=>awg e y
 | _,_=>false
theorem Vp {a b:Lf U}(h:ass a b=true):a=b:=by
 unfold ass at h;split at h
 ·rw[ays h]
 ·rw[oM h]
 ·rw[jA]at h;rw[afe h.1,OL h.2]
 ·rw[Dj h]
 ·simp_all
 ·rw[He h]
 ·simp only[jA]at h;rw[Qa h.1,Qa h.2.1,He h.2.2]
 ·rw[jA]at h;rw[Qa h.1,lS afU h.2]
 ·simp_all
 ·simp_all
 ·simp_all
 ·rw[ahF h]
 ·rw[aBs h]
 ·cases h
def aEy:Sv U->Sv U->Bool
 | .lf x, .lf y=>ass x y
 | .agg a, .agg b=>ve ass a b
 | _,_=>false
theorem anL {a b:Sv U}(h:aEy a b=true):a=b:=by
 cases a<;>cases b<;>first | cases h | skip
 ·rw[Vp h]
 ·rw[lS Vp h]
def aD2:Sl U->Sl U->Bool
 | .one x, .one y=>aEy x y
 | .wU a, .wU b=>ve aEy a b
 | _,_=>false
theorem aoh {a b:Sl U}(h:aD2 a b=true):a=b:=by
 cases a<;>cases b<;>first | cases h | skip
 ·rw[anL h]
 ·rw[lS anL h]
def asx:Bk U->Bk U->Bool
 | .cells c, .cells f=>ve ass c f
 | .row e d, .row k g=>Nat.beq e k && uBq d g
 | .xZ d, .xZ g=>uBq d g
 | .iter s n, .iter h j=>Nat.beq n j && RI s h
 | .map a, .map b=>uBq a b
 | .tc t c, .tc i f=>Nat.beq t i && ve ass c f
 | _,_=>false
theorem aog {a b:Bk U}(h:asx a b=true):a=b:=by
 cases a<;>cases b<;>first | cases h | skip
 ·rw[lS Vp h]
 ·simp only[asx,jA]at h;rw[Qa h.1,He h.2]
 ·rw[He h]
 ·simp only[asx,jA]at h;rw[Qa h.1,Dj h.2]
 ·rw[He h]
 ·simp only[asx,jA]at h;rw[Qa h.1,lS Vp h.2]
abbrev Res:=Sl U×List (Nat×Bk U)×List Nat
def aDx:Nat×Bk U->Nat×Bk U->Bool
 | (n,b),(c,a)=>Nat.beq n c && asx b a
theorem aBn {a b:Nat×Bk U}(h:aDx a b=true):a=b:=by
 cases a;cases b;simp only[aDx,jA]at h;rw[Qa h.1,aog h.2]
def sO (f:Ct U)(args:List (Sl U))(g:List (Bk U))(e:Res):Bool:=
 match f args g with
 | some (none,r,d,c)=>(match e with
  | (h,a,b)=>aD2 r h && (ve aDx d a && ve as2 c b))
 | _=>false
theorem Wv {b:Ct U}{args:List (Sl U)}{c:List (Bk U)}{a:Res}(h:sO b args c a=true):b args c=some (none,a):=by
 unfold sO at h;split at h
 ·rename_i r i g f;obtain⟨j,d,e⟩:=a;simp only[jA]at h;rw[f,aoh h.1,lS aBn h.2.1,lS afU h.2.2]
 ·cases h
def aeu (c:List (Sl U))(a:List (Bk U))(b:Res):Ct U:=fun args d=>
 match ve aD2 args c && ve asx d a with
 | true=>some (none,b)
 | false=>none
section
variable {P:Program}{S:Sh U}
theorem azV {f:FuncId}{l:Ct U}{b:List (Sl U)}{d:List (Bk U)}{c:Res}(h:fK P S f l)(t:sO l b d c=true):fK P S f (aeu b d c):=by
 refine⟨h.enters,fun X N g w args n u p r k m o j a i=> ?_⟩;unfold aeu at a;split at a
 ·rename_i e;rw[jA]at e;have q:=lS aoh e.1;have s:=lS aog e.2;subst q s;refine h.calls X N g w args n u p r k m o j ?_ i;rw[Wv t];exact a
 ·cases a
end
section
variable {D:Type}{P:Program}{S:Sh D}
def acI:List (Nat×Ct D)->FuncId->Option (Ct D)
 | [],_=>none
 | (n,c)::r,f=>(match Nat.beq n f with
  | true=>(match acI r f with
   | some a=>some (auu c a)
   | none=>some c)
  | false=>acI r f)
theorem ac8:∀{l:List (Nat×Ct D)} (h:∀p∈l,fK P S p.1 p.2) (f:FuncId) (a:Ct D),acI l f=some a->fK P S f a
 | [],_,f,a,h=>by cases h
 | (n,c)::r,d,f,a,h=>by
  unfold acI at h;split at h
  ·rename_i e;have e:=Qa e;subst e;have i:=d (n,c) kM;split at h
   ·rename_i j g;injection h with h
    subst h;exact ae1 i (ac8 (fun p b=>d p (by simp[b])) _ _ g)
   grind
  ·exact ac8 (fun p b=>d p (by simp[b])) f a h
end
def zA {D:Type}(args:List (Sl D)):Option (Sl D):=match args with
 | [.one (.lf (.str s)), .one (.lf (.int .u8 c))]=>some (.one (.lf (.int .i64 (Lib.indexByte s c.toNat.toUInt8))))
 | _=>none
def Zk {D:Type}(args:List (Sl D)):Option (Sl D):=match args with
 | [.one (.lf (.str s)), .one (.lf (.str [c]))]=>some (.one (.lf (.int .i64 (Lib.countByte s c))))
 | _=>none
def Ug (P:Program)(a:Nat->Option U):Sh U:=FW (ksU P) a (mkU P)
noncomputable def aqy (P:Program)(b:Nat->Option U)(a:List (Nat×Ct U))(m k f:Nat):Ct U:=
 match ZX P (tyU P) (Ug P b) (acI a) m k f with
 | some c=>c
 | none=>fun _ _=>none
noncomputable def goU (P:Program)(a:List (Nat×Ct U))(k f:Nat):Ct U:=aqy P (fun _=>none) a 100 k f
theorem aoI {P:Program}{b:Nat->Option U}{a:List (Nat×Ct U)}{m k f:Nat}(e:P.follows .mixedOrders=true)(g:iZ (Ug P b))(d:∀p∈a,fK P (Ug P b) p.1 p.2)(i:(ZX P (tyU P) (Ug P b) (acI a) m k f).isSome=true):fK P (Ug P b) f (aqy P b a m k f):=by
 unfold aqy;cases h:ZX P (tyU P) (Ug P b) (acI a) m k f with
 | none=>grind
 | some c=>exact anK e aEO g (ac8 d) k f c h
theorem Jv {P:Program}{e:Nat->Option U}{d:List (Nat×Ct U)}{m k f:Nat}{a:List (Sl U)}{b:List (Bk U)}{r:Res}(h:sO (aqy P e d m k f) a b r=true):(ZX P (tyU P) (Ug P e) (acI d) m k f).isSome=true:=by
 unfold aqy at h;cases g:ZX P (tyU P) (Ug P e) (acI d) m k f with
 | some c=>rfl
 | none=>rw[g]at h;cases h
theorem IZ {P:Program}{d:Nat->Option U}{c:List (Nat×Ct U)}{m k f:Nat}{a:List (Sl U)}{b:List (Bk U)}{r:Res}(i:P.follows .mixedOrders=true)(j:iZ (Ug P d))(e:∀p∈c,fK P (Ug P d) p.1 p.2)(h:sO (aqy P d c m k f) a b r=true):∀p∈((f,aeu a b r)::c:List (Nat×Ct U)),fK P (Ug P d) p.1 p.2:=by
 intro p g;rcases zN.1 g with rfl | g
 ·exact azV (aoI i j e (Jv h)) h
 grind
end Go.Vc
namespace Go.Vc
open Go.RowKit
def ctB (D:Type)(b:Bool):Ct D:=fun args a=>
 match args,a with
 | [],[]=>some (none, .one (.lf (.bool b)),[],[])
 | _,_=>none
def isB {D:Type}(b:Bool):Sl D->Bool
 | .one (.lf (.bool c))=>xG b c
 | .one (.lf (.val (.bool c)))=>xG b c
 | _=>false
theorem aBE {D:Type}{S:Sh D}{M:Nat->Prop}{w:World}{g:Nat->Option Value}{b:Bool}{r:Sl D}{v:Value}(h:isB b r=true)(a:r.Rel S M w g v):v= .bool b:=by
 unfold isB at h;split at h
 ·rw[oM h];exact a
 ·rw[oM h];exact a
 ·cases h
theorem aEj {D q:Type}{S:Sh D}{y:Sh q}{P:Program}{f:FuncId}{z:Ct q}{b:Bool}{r:Sl q}(A:y.Po=fun _=>none)(h:fK P y f z)(H:z [] []=some (none,r,[],[]))(n:isB b r=true):fK P S f (ctB D b):=by
 refine⟨h.enters,fun X N g w args oU dD p r' I Z o x c F=> ?_⟩;unfold ctB at c;split at c
 ·injection c with c
  injection c with L c
  injection c with M c
  injection c with Y E
  subst L M Y E;have V:args=[]:=by
   cases args with
   | nil=>rfl
   | cons a r=>cases x
  subst V;have t:∀l,lQ ([]:List (Bk q)) l=none:=fun l=>by simp[lQ]
  have K:Hp y ⟨w,fun _=>False⟩ N (lQ []) g (· < ([]:List (Bk q)).length) w:=
   ⟨BH.refl _,fun b n=>⟨(o.hN b n).1,fun e=>e⟩,fun l J m=>(by rw[t]at m;cases m),fun l R v Q b m=>(by rw[t]at m;cases m),o.al,o.refs,fun i d B=>(by rw[A]at B;cases B)⟩
  refine(h.calls (fun _=>False) N g w [] [] [] none r [] [] K trivial H trivial).mono ?_;rintro e w' ⟨v,g',rfl,U,j,C⟩;have s:∀l,xR [] [] ([]:List (Bk D)) l=none:=fun l=>by simp[xR,kX,uP]
  have u:∀{l},hot (xR [] [] ([]:List (Bk D)) l)=true->False:=fun{l} e=>by rw[s]at e;cases e
  have G:∀b,aY N (xR [] [] ([]:List (Bk D))) g' b->N b:=fun b n=>by
   rcases n with n | ⟨l,_,m,_⟩
   ·exact n
   ·exact(u m).elim
  have T:BH ⟨w,X⟩ w':=⟨j.below.os,j.below.tape,j.below.output,j.below.size,fun k O _=>j.below.block k O (fun e=>e)⟩;refine⟨v,g',rfl,U,⟨T,o.hN,fun l J m=>(by rw[s]at m;cases m),fun l R v Q b m=>(u m).elim,fun _ _ _=>trivial,j.refs,o.gl.keep ⟨j.below.size,fun b n W=>⟨fun e=>W (.inl (G b e)),j.below.block b n (fun e=>e)⟩⟩⟩,?_⟩;rw[aBE n C];rfl
 ·cases c
section
variable {D:Type}{P:Program}{S:Sh D}
theorem enters_of {f:FuncId}{a:Func}(e:P.funcs[f]? =some a)(g:a.body.isSome=true)(b:(a.name== "runtime.NumGoroutine")=false)(args:Array Value)(w:World):(callFunc f args).run P w= .ok (.enter f args) w:=by
 obtain⟨c,d⟩:=Qb2.1 g;have b:¬a.name= "runtime.NumGoroutine" :=by simpa using b
 simp[callFunc,e,b,d]
theorem YP {f:FuncId}(g:∀(args:Array Value) (w:World),(callFunc f args).run P w= .ok (.enter f args) w)
  (h:∀(s:ByteArray) (c:Int) (w:World),Calls P f #[.string s, .int .u8 c] w fun e k=>e= .returned (.int .i64 (Lib.indexByte s.data.toList c.toNat.toUInt8))/\k=w):fK P S f (Bl zA):=by
 refine abC g fun M w n args d r b a=> ?_;unfold zA at b;split at b
 ·rename_i s c;injection b with b
  subst b;match d,a with
  | [m,i],a=>
   obtain⟨⟨l,_⟩,j,_⟩:=a;rw[l,show i= .int .u8 c from j];exact⟨_,h _ _ _,rfl⟩
 ·cases b
theorem amx {f:FuncId}(g:∀(args:Array Value) (w:World),(callFunc f args).run P w= .ok (.enter f args) w)
  (h:∀(s:ByteArray) (c:UInt8) (w:World),Calls P f #[.string s, .string ⟨#[c]⟩] w fun e j=>e= .returned (.int .i64 (Lib.countByte s.data.toList c))/\j=w):fK P S f (Bl Zk):=by
 refine abC g fun M w n args d r b a=> ?_;unfold Zk at b;split at b
 ·rename_i s c;injection b with b
  subst b;match d,a with
  | [l,m],a=>
   obtain⟨⟨k,_⟩,⟨i,_⟩,_⟩:=a;rw[k,i];exact⟨_,h _ _ _,rfl⟩
 ·cases b
end
end Go.Vc
namespace Go.Vc
open Go.RowKit
section
variable {D:Type}
end
section
variable {D:Type}{P:Program}{S:Sh D}{T:TypeId->Option Ty}{Γ:FuncId->Option (Ct D)}{N:Nat->Prop}{w w':World}{w0:Bs}{g0:Nat->Option Value}{n:Nat}{al:Nat->Prop}{g:Nat->Option Value}{blk:Nat->Option (Bk D)}{ids:List Nat}
end
section
variable {D:Type}
def Tr.road:List Bool->{R:Type}->Tr D R->Option (Prop×R)
 | _,_, .ret r=>some (True,r)
 | cs,_, .ob p k=>(match k.road cs with
  | some (q,r)=>some (p.p/\q,r)
  | none=>none)
 | cs,_, .as _ k=>k.road cs
 | c::cs,_, .br b t e=>(match c with
  | true=>(match t.road cs with
   | some (q,r)=>some (b=true/\q,r)
   | none=>none)
  | false=>(match e.road cs with
   | some (q,r)=>some (b=false/\q,r)
   | none=>none))
 | [],_, .br _ _ _=>none
 | _,_, .stuck _=>none
 | _,_, .halt _ _=>none
 | _,_, .unk _ _ _=>none
 | _,_, .loop _ _ _=>none
 | _,_, .cut _ _ _=>none
theorem Tr.Hw:∀(cs:List Bool) {R:Type} (t:Tr D R) (q:Prop) (r:R),t.road cs=some (q,r)->q->t.run r=some r
 | cs,_, .ret r,q,a,h,_=>by
  simp only[Tr.road]at h;injection h with h;injection h with _ h;subst h;rfl
 | cs,_, .ob p k,q,a,h,d=>by
  simp only[Tr.road]at h;split at h
  ·rename_i l f i;injection h with h
   injection h with j g
   subst j g;simp only[Tr.run];rw[zi d.1];exact Tr.Hw cs k l f i d.2
  ·cases h
 | cs,_, .as p k,q,a,h,d=>by
  simp only[Tr.road]at h;have:=Tr.Hw cs k q a h d;simp only[Tr.run];by_cases m:p
  ·rw[AO m];exact this
  ·rw[ER m]
 | c::cs,_, .br b t e,q,a,h,d=>by
  simp only[Tr.road]at h;cases c with
  | true=>
   dsimp only at h;split at h
   ·rename_i l f i;injection h with h
    injection h with j g
    subst j g;simp only[Tr.run,d.1,cond_true];exact Tr.Hw cs t l f i d.2
   ·cases h
  | false=>
   dsimp only at h;split at h
   ·rename_i l f i;injection h with h
    injection h with j g
    subst j g;simp only[Tr.run,d.1,jm];exact Tr.Hw cs e l f i d.2
   ·cases h
 | [],_, .br _ _ _,q,a,h,_=>by simp[Tr.road]at h
 | cs,_, .stuck _,q,a,h,_=>by simp[Tr.road]at h
 | cs,_, .halt _ _,q,a,h,_=>by simp[Tr.road]at h
 | cs,_, .unk _ _ _,q,a,h,_=>by simp[Tr.road]at h
 | cs,_, .loop _ _ _,q,a,h,_=>by simp[Tr.road]at h
 | cs,_, .cut _ _ _,q,a,h,_=>by simp[Tr.road]at h
def aE2 (T:TypeId->Option Ty)(S:Sh D)(e:FuncId->Option (Ct D))(a:Func)(cs:List Bool):Ct D:=fun args d=>
 if Nat.ble args.length a.ntmps then
  (match(MQ T S e a.ntmps (fun _=>none) (FH a) (amm D) (St.init args d) (att T S a.results.toList d.length)).road cs with
  | none=>none
  | some (q,r,c,b)=>some (some (dq q),r,c,b))else none
end
section
variable {D:Type}{P:Program}{S:Sh D}{T:TypeId->Option Ty}{Γ:FuncId->Option (Ct D)}{N:Nat->Prop}{w w':World}{w0:Bs}{g0:Nat->Option Value}{n:Nat}{al:Nat->Prop}{g:Nat->Option Value}{blk:Nat->Option (Bk D)}{ids:List Nat}
theorem aA8 {f:FuncId}{n:Func}{cs:List Bool}(R:P.follows .mixedOrders=true)(E:∀t O,T t=some O->eP P t O)(hΓ:∀f ct,Γ f=some ct->fK P S f ct)(hS:iZ S)(Z:P.funcs[f]? =some n)(hc:y_ n=true):fK P S f (aE2 T S Γ n cs):=by
 simp only[y_,jA,Qdd,ne_eq]at hc;obtain⟨h1,W,M⟩:=hc;obtain⟨c,y⟩:=Qb2.1 h1;have V:FH n=c:=by simp[FH,y]
 refine⟨fun args w=>by simp[callFunc,Z,W,y],fun X N g w args oU x p r post kp I K a H=> ?_⟩;unfold aE2 at a;split at a
 ·rename_i A;have A:=Qa0 A;split at a
  ·cases a
  rename_i q L j k m;injection a with a
  injection a with q1 a
  injection a with q2 a
  injection a with q3 q4
  subst q1 q2 q3 q4;have m:=Tr.Hw cs _ _ _ m H;rw[V]at m M;have Q:∀l v,g l=some v->l < x.length:=I.al;have U:∀(l:Nat) (z:Bk D),x[l]? =some z->∀r∈z.refs,r < x.length:=fun l z y r o=>by
   obtain⟨v,hv,F⟩:=I.dD l z y;cases z with
   | cells cs=>
    obtain⟨b,vs,t,_,_,_,C⟩:=F;obtain⟨u,hu⟩:=bf.iO C r o
    grind
   | row e d=>simp[Bk.refs]at o
   | xZ d=>simp[Bk.refs]at o
   | iter s p=>simp[Bk.refs]at o
   | map kvs=>simp[Bk.refs]at o
   | tc t cs=>
    obtain⟨b,vs,_,_,_,C⟩:=F;obtain⟨u,hu⟩:=bf.iO C r o
    grind
  refine calls_of_wp Z y (Xd (J:=fun _=>none) (fun _ _ h=>by cases h) R E hΓ hS (w0:=⟨w,X⟩) (N:=N) c _ _ _ _ _ _ _ w M m (KY I K A) fun e s' Y w' h' hpb _ B=> ?_);have G:(agk T S n.results.toList x.length s').run (L,j,k)=some (L,j,k)->Y.defers=[]/\∃v,(results n Y.tmps).run P w'= .ok v w'/\∃v' g',Ending.returned v= .returned v'/\More g g'/\Hp S ⟨w,X⟩ N (xR j k x) g' (fun _=>True) w'/\
    L.Rel S (aY N (xR j k x) g') w' g' v':=by
   intro B;obtain⟨h1,v,W,g',M,h4,h5⟩:=Xp E Q U hpb h' B
   grind
  cases e with
  | normal=>exact G B
  | ret=>exact G B
  | exit i=>cases B
 ·cases a
def aHh (Z:Seat D)(l:List (bT Z))(f:FuncId){a:Func}(cs:List Bool)(c:Z.P.funcs[f]? =some a)(b:y_ a=true):bT Z:=
 ⟨f,aE2 Z.T Z.S (Gq l) a cs,aA8 Z.mx Z.hT (fun _ _ h=>L8 h) Z.hS c b⟩
end
end Go.Vc

/- Own engine: Vea, Veb, Vec, Veg, Veh, Vej. -/
import Derived.Test.YtenjnekcoapajaaGreatDoorEng13
import Derived.Lib.Bytealg
set_option linter.unusedVariables false
set_option linter.unusedSimpArgs false
namespace Go.Vc
open Go.RowKit
mutual
inductive U where
 | mk (sz:Nat) (rows:List (List UC))
 | map (ag:Bool) (kd:Nat) (z:List Pv) (kvs:List (Pv×List Pv))
inductive UC where
 | bool (b:Bool)
 | int (k:IntKind) (n:Int)
 | str (s:List UInt8)
 | dat (u:U)
 | Xw (v:Option Ifc)
end
def U.size:U->Nat
 | .mk a _=>a
 | .map _ _ _ _=>0
def U.rows:U->List (List UC)
 | .mk _ r=>r
 | .map _ _ _ _=>[]
def U.AX:U->Option (Mp U)
 | .mk _ _=>none
 | .map c b z a=>if a.all (fun p=>Nat.beq p.1.kind b)then some ⟨b,c,z,a,fun k=>(zh k a).isSome,fun k=>((zh k a).getD z).map Pv.lf,fun k d=> .map c b z (KE k d a),a.length⟩else none
theorem YA {V:Type}{a:Nat}{k:Pv}{v:V}(b:k.kind=a):∀l:List (Pv×V),l.all (fun p=>Nat.beq p.1.kind a)=true->(KE k v l).all (fun p=>Nat.beq p.1.kind a)=true
 | [],_=>by simp[KE,b]
 | p::r,h=>by
  simp only[Qcm,iZ]at h;unfold KE;split
  ·grind
  ·simp only[Qcm,iZ];exact⟨h.1,YA b r h.2⟩
def UC.lf:UC->Lf U
 | .bool b=> .bool b
 | .int k n=> .int k n
 | .str s=> .str s
 | .dat u=> .dat u
 | .Xw v=> .Xw v
theorem UC.data (c:UC):c.lf.jr=true:=by cases c<;>rfl
def aDA (k:Nat):Lf U->Option UC
 | .bool b=>some (.bool b)
 | .val (.bool b)=>some (.bool b)
 | .int k n=>some (.int k n)
 | .str s=>some (.str s)
 | .dat u=>some (.dat u)
 | .Xw v=>some (.Xw v)
 | .val (.slice none 0 0)=>some (.dat (.mk k []))
 | _=>none
def Jz:List Nat->List (Lf U)->Option (List UC)
 | [],[]=>some []
 | k::ks,x::a=>(match aDA k x,Jz ks a with
  | some c,some cs=>some (c::cs)
  | _,_=>none)
 | _,_=>none
def CY (r:List (List UC))(i j:Nat):Lf U:=
 match r[i]? with
 | some cs=>(match cs[j]? with
  | some c=>c.lf
  | none=> .bool false)
 | none=> .bool false
def chunk (a:List Nat):Nat->List (Lf U)->Option (List (List UC))
 | 0,[]=>some []
 | 0,_::_=>none
 | n+1,b=>if Nat.ble a.length b.length then(match Jz a (b.take a.length),chunk a n (b.drop a.length)with
  | some r,some c=>some (r::c)
  | _,_=>none)else none
def acQ:List UC->List Nat
 | []=>[]
 | .dat u::r=>u.size::acQ r
 | _::r=>0::acQ r
def aEi (b:Nat)(r:List (List UC))(i j:Nat)(a:List (Lf U)):Option U:=
 match r[i]? with
 | none=>none
 | some cs=>if Nat.ble (j+a.length) b && Nat.beq cs.length b then(match Jz (((acQ cs).drop j).take a.length) a with
  | some c=>some (.mk b (r.set i (cs.take j++(c++cs.drop (j+c.length)))))
  | none=>none)else none
def Dv (ks:TypeId->Option (List Nat))(gl:Nat->Option U)(mk:TypeId->Option (Bool×Nat×List Pv):=fun _=>none):Sh U where
 size:=U.size
 len:=fun u=>u.rows.length
 cell:=fun u i j=>CY u.rows i j
 make:=fun e n xs=>match ks e with
  | some k=>(match chunk k n xs with
   | some r=>some (.mk k.length r)
   | none=>none)
  | none=>none
 zero:=fun e n xs=>match ks e with
  | some k=>(match Jz k xs with
   | some r=>some (.mk k.length (List.replicate n r))
   | none=>none)
  | none=>none
 set:=fun u i j xs=>aEi u.size u.rows i j xs
 cat:=fun a b=>if Nat.beq a.size b.size then some (.mk a.size (a.rows++b.rows))else none
 sub:=fun u i j=>match u with
  | .mk sz rows=>some (.mk sz ((rows.take j).drop i))
  | .map _ _ _ _=>none
 MB:=fun i=>match gl i with
  | some (.mk sz rows)=>some (.mk sz rows)
  | _=>none
 run:=true
 mp:=U.AX
 aqM:=fun t=>match mk t with
  | some (ag,kd,z)=>some (.map ag kd z [])
  | none=>none
 text:=fun _ s=>some (.mk 1 (s.map fun b=>[.int .u8 b.toNat]))
section
variable {ks:TypeId->Option (List Nat)}{gl:Nat->Option U}{mk:TypeId->Option (Bool×Nat×List Pv)}
theorem rV {a:Nat}{r:List (List UC)}:(U.mk a r).rows=r:=rfl
theorem aAP {k:Nat}{x:Lf U}{c:UC}(h:aDA k x=some c):x.Le (Dv ks gl mk) c.lf:=by
 unfold aDA at h;split at h<;>first | (injection h with h;subst h;exact .inl rfl) | skip
 ·injection h with h;subst h;exact .inr (.inr (.inl ⟨_,rfl,rfl⟩))
 ·injection h with h;subst h;exact .inr (.inl ⟨rfl,_,rfl,rfl,rfl⟩)
 ·cases h
theorem LP:∀{k:List Nat} {a:List (Lf U)} {cs:List UC},Jz k a=some cs->cs.length=k.length/\a.length=k.length/\∀(j:Nat) (x:Lf U),a[j]? =some x->∃c,cs[j]? =some c/\x.Le (Dv ks gl mk) c.lf
 | [],[],cs,h=>by simp[Jz]at h;subst h;simp
 | k::kr,x::a,cs,h=>by
  unfold Jz at h;split at h
  ·rename_i c i d b;injection h with h
   subst h;obtain⟨g,f,e⟩:=LP b
   grind [aAP]
  ·cases h
 | [],_::_,cs,h=>by simp[Jz]at h
 | _::_,[],cs,h=>by simp[Jz]at h
theorem ad2 {k:List Nat}:∀{n:Nat} {a:List (Lf U)} {r:List (List UC)},chunk k n a=some r->r.length=n/\a.length=n*k.length/\∀i j,i < n->j < k.length->∃x,a[i*k.length+j]? =some x/\x.Le (Dv ks gl mk) (CY r i j)
 | 0,[],r,h=>by simp[chunk]at h;grind
 | 0,_::_,r,h=>by simp[chunk]at h
 | n+1,a,r,h=>by
  unfold chunk at h;split at h
  ·rename_i d;have d:=Qat d;split at h
   ·rename_i c w l o;injection h with h
    subst h;obtain⟨p,v,m⟩:=ad2 o;obtain⟨z,u,g⟩:=LP (ks:=ks) (gl:=gl) (mk:=mk) l;have t:a.length=k.length+n*k.length:=by
     grind
    refine⟨by simp[p],by grind,fun i j y q=> ?_⟩;cases i with
    | zero=>
     rw[Nat.zero_mul,Bc];have f:j < (a.take k.length).length:=by omega
     obtain⟨s,e,b⟩:=g j _ (Qas f);refine⟨(a.take k.length)[j],by grind,?_⟩;simp only[CY,Qcf,e];exact b
    | succ i=>
     obtain⟨x,e,b⟩:=m i j aj q;refine⟨x,?_,?_⟩
     ·grind
     ·simpa[CY]using b
   ·cases h
  ·cases h
theorem Cj:ShOk (Dv ks gl mk) where
 Xy:=fun e n cs d h=>by
  simp only[Dv]at h;split at h
  ·split at h
   ·injection h with h;subst h;rfl
   ·cases h
  ·cases h
 axr:=fun e n zs d h=>by
  simp only[Dv]at h;split at h
  ·split at h
   ·injection h with h;subst h;rfl
   ·cases h
  ·cases h
 aCR:=fun d i j xs d' h _=>by
  simp only[Dv]at h;unfold aEi at h;split at h
  ·cases h
  ·split at h
   ·split at h
    ·injection h with h;subst h;rfl
    ·cases h
   ·cases h
 axp:=fun d1 d2 d h=>by
  simp only[Dv]at h;split at h
  ·injection h with h;subst h;rfl
  ·cases h
 EN:=fun d i j d' h=>by
  simp only[Dv]at h;split at h
  ·injection h with h;subst h;exact⟨rfl,rfl⟩
  ·cases h
 aGb:=fun e s d h=>by
  simp only[Dv]at h;injection h with h;subst h;rfl
 x8:=fun d m h=>by
  cases d with
  | mk sz r=>exact nomatch h
  | map ag kd z kvs=>
   refine⟨rfl,rfl,?_⟩;have h:(if kvs.all (fun p=>Nat.beq p.1.kind kd)then _ else none)=some m:=h;split at h
   ·rename_i hk;injection h with h
    subst h;refine⟨fun p hp=>Qa (Qb.1 hk p hp),fun _ _=>rfl,fun _ _=>rfl,fun k vs hkk _=> ?_,rfl⟩;refine⟨_,vJ (YA hkk kvs hk),rfl,rfl⟩
   ·cases h
 axq:=fun t d h=>by
  simp only[Dv]at h;split at h
  ·injection h with h;subst h;exact⟨_,rfl,rfl⟩
  ·cases h
 aGa:=fun i d h=>by
  simp only[Dv]at h;split at h
  ·injection h with h;subst h;rfl
  ·cases h
 make:=fun e n cs d h=>by
  simp only[Dv]at h;split at h
  ·rename_i k hk;split at h
   ·rename_i r hr;injection h with h
    subst h;obtain⟨h1,h2,h3⟩:=ad2 (ks:=ks) (gl:=gl) (mk:=mk) hr;exact⟨h1,h2,fun i j hi hj=>h3 i j hi hj⟩
   ·cases h
  ·cases h
 data:=fun d i j hi hj=>by
  simp only[Dv,CY];split
  ·split
   ·exact UC.data _
   ·rfl
  ·rfl
 zero:=fun e n zs d h=>by
  simp only[Dv]at h;split at h
  ·rename_i k hk;split at h
   ·rename_i r hr;injection h with h
    subst h;obtain⟨h1,h2,h3⟩:=LP (ks:=ks) (gl:=gl) (mk:=mk) hr;refine⟨by simp[Dv,rV],h2,fun i j hi hj=> ?_⟩;have hj:j < k.length:=hj;obtain⟨c,h4,h5⟩:=h3 j _ (Qas (show j < zs.length by omega));refine⟨zs[j],Qas aj,?_⟩;simp only[Dv,CY,rV];rw[List.getElem?_replicate,vJ hi];simp only[h4];exact h5
   ·cases h
  ·cases h
 set:=fun d i j xs d' h hi=>by
  simp only[Dv]at h hi;unfold aEi at h;split at h
  ·cases h
  ·rename_i cs hcs;split at h
   ·rename_i hc;simp only[iZ]at hc;have c1:=Qat hc.1;have c2:=Qa hc.2;split at h
    ·rename_i ys hys;injection h with h
     subst h;obtain⟨h1,h2,h3⟩:=LP (ks:=ks) (gl:=gl) (mk:=mk) hys;have hyx:ys.length=xs.length:=by omega
     refine⟨rfl,by simp[Dv,rV],fun i' j' hi' hj'=>⟨fun⟨e,g1,g2⟩=> ?_,fun hne=> ?_⟩⟩
     ·subst e;obtain⟨c,h4,h5⟩:=h3 (j' - j) _ (Qas (show j' - j < xs.length by omega));refine⟨xs[j' - j]' aj,Qas aj,?_⟩;simp only[Dv,CY,rV];rw[List.getElem?_set_self (show i' < d.rows.length from hi')];have:(cs.take j++(ys++cs.drop (j+ys.length)))[j']? =some c:=by
       grind
      simp only[this];exact h5
     ·simp only[Dv,CY,rV];by_cases e:i'=i
      ·subst e;rw[List.getElem?_set_self (show i' < d.rows.length from hi'),hcs];dsimp only;have:(cs.take j++(ys++cs.drop (j+ys.length)))[j']? =cs[j']? :=by
        by_cases hlt:j' < j
        ·grind
        ·have hge:j+xs.length<=j':=by
          omega
         rw[Qbo dm,Iq,Qdm aj,Qbo aj,Qd5]
         grind
       rw[this]
      grind
    ·cases h
   ·cases h
 cat:=fun d1 d2 d h=>by
  simp only[Dv]at h;split at h
  ·rename_i hs;have hs:=Qa hs;injection h with h
   subst h;refine⟨rfl,hs.symm,by simp[Dv,rV],fun i j hi=> ?_,fun i j hi=> ?_⟩
   ·simp only[Dv,CY,rV];rw[Qdi (show i < d1.rows.length from hi)]
   ·simp only[Dv,CY,rV]
    grind
  ·cases h
 sub:=fun d i j d' h hij hj=>by
  cases d with
  | map ag kd z kvs=>exact nomatch h
  | mk sz rows=>
  simp only[Dv]at h hj;injection h with h
  subst h;have hj:j<=rows.length:=hj;refine⟨rfl,?_,fun k c hk=> ?_⟩
  ·show((rows.take j).drop i).length=j - i
   grind
  ·simp only[Dv,CY,rV]
   grind
 text:=fun e s d h=>by
  simp only[Dv]at h;injection h with h
  subst h;refine⟨rfl,by simp[Dv,rV],fun i hi=> ?_⟩;simp only[Dv,CY,rV];rw[Qb1,Qas hi];simp[UC.lf,List.getD,hi]
end
end Go.Vc
namespace Go.Vc
open Go.RowKit
def tyU (P:Program)(t:TypeId):Option Ty:=
 match apL P t with
 | some a=>if a.lit then none else some {a with lit:=true}
 | none=>none
theorem aEf {P:Program}:∀t a,tyU P t=some a->TyOk P t a:=fun t a h=>by
 unfold tyU at h;split at h
 ·rename_i b c;split at h
  ·cases h
  ·rename_i d;injection h with h
   subst h;unfold TyOk;rw[c];cases b
   grind
 ·cases h
def ajc (P:Program):Nat->TypeId->List Nat
 | 0,_=>[]
 | k+1,t=>match P.underlying t with
  | some (.struct a)=>a.toList.flatMap fun f=>ajc P k f.type
  | some (.array n e)=>(List.range n).flatMap fun _=>ajc P k e
  | some (.slice e)=>(match P.info? e with
   | some i=>[i.size]
   | none=>[0])
  | _=>[0]
def ksU (P:Program)(e:TypeId):Option (List Nat):=some (ajc P 30 e)
def pvV:Value->Option Pv
 | .bool b=>some (.bool b)
 | .int k n=>some (.int k n)
 | .string s=>some (.str s.data.toList)
 | _=>none
def aGC:List Value->Option (List Pv)
 | []=>some []
 | v::b=>(match pvV v,aGC b with
  | some p,some a=>some (p::a)
  | _,_=>none)
def mkU (P:Program)(t:TypeId):Option (Bool×Nat×List Pv):=
 match P.underlying t with
 | some (.map k v)=>(match apL P k,apL P v with
  | some b,some a=>(match aGC a.zero with
   | some z=>some (a.zag,b.kind,z)
   | none=>none)
  | _,_=>none)
 | _=>none
end Go.Vc
namespace Go.Vc
open Go.RowKit
section
variable {D:Type}{P:Program}{S:Sh D}
def zC (g:List (Sl D)->Option (Sl D)):Ct D:=fun args a=>
 match a,g args with
 | [],some r=>some (none,r,[],[])
 | _,_=>none
theorem amN:yf (D:=D) [] [] []=jD []:=by
 rfl
theorem Z_ {f:FuncId}{g:List (Sl D)->Option (Sl D)}(j:∀(args:Array Value) (w:World),(callFunc f args).run P w= .ok (.enter f args) w)
  (h:∀(M:Nat->Prop) (w:World) (c:Nat->Option Value) (args:List (Sl D)) (b:List Value) (r:Sl D),g args=some r->eF S M w c args b->∃v,(Calls P f b.toArray w fun e i=>e= .returned v/\i=w)/\r.Rel S M w c v):CtOk P S f (zC g):=by
 refine⟨j,fun X N c w args y x p r t z m d a s=> ?_⟩;unfold zC at a;split at a
 ·rename_i A n;injection a with a
  injection a with B a
  injection a with o a
  injection a with l k
  subst o l k;obtain⟨v,u,q⟩:=h _ _ _ _ _ _ n d;refine u.mono ?_;rintro e i ⟨rfl,rfl⟩;refine⟨v,c,rfl,fun _ _ h=>h,?_,?_⟩
  ·rw[amN];exact m.weaken fun _ _=>trivial
  ·rw[amN];exact q
 ·cases a
def L9 (c:TypeId):Ct D:=fun args b=>
 match args,b with
 | [.one (.lf (.ptr 0 0))], .tc t [a]::r=>if Nat.beq t c then some (none, .Dh [],[(0, .tc t [a])],(List.range (r.length+1)).filter fun i=> !Nat.beq i 0)else none
 | _,_=>none
theorem WC {d a:Bk D}{r:List (Bk D)}:yf [(0,a)] ((List.range (r.length+1)).filter fun i=> !Nat.beq i 0) (d::r)=upd (jD (d::r)) 0 (some a):=by
 funext i;simp only[yf,jM,jD];by_cases b:i=0
 ·subst b;simp[upd_same]
 ·have g:¬(Nat.beq 0 i=true):=fun e=>b (Qa e).symm
  rw[uU g,bM _ _ _ _ b];dsimp only;by_cases c:i < r.length+1
  ·have h:(!Nat.beq i 0)=true:=by
    cases e:Nat.beq i 0 with
    | true=>simp_all
    | false=>rfl
   rw[vJ (fC.2 (Qbb.2 ⟨Qcd.2 c,h⟩))];rfl
  ·rw[uU (fun f=>c (Qcd.1 (Qbb.1 (fC.1 f)).1))];exact(List.getElem?_eq_none (by simpa using c)).symm
theorem aiq {f:FuncId}{y:TypeId}(B:∀(args:Array Value) (w:World),(callFunc f args).run P w= .ok (.enter f args) w)
  (H:∀(b:Nat) (w:World),w.cell? ⟨b,0,none⟩=some (.pointer (some ⟨b,0,none⟩))->Calls P f #[.pointer (some ⟨b,0,none⟩)] w fun e w'=>e= .returned (.tuple #[])/\w'=w)
  (J:∀(b:Nat) (w:World),w.cell? ⟨b,0,none⟩=some (.pointer none)->w.shape? b=some (y,2)->w.frozen? ⟨b,0,none⟩=false->Calls P f #[.pointer (some ⟨b,0,none⟩)] w fun e w'=>e= .returned (.tuple #[])/\w'=w.setCell ⟨b,0,none⟩ (.pointer (some ⟨b,0,none⟩))):
  CtOk P S f (L9 y):=by
 refine⟨B,fun X N A w args R Q p r M T q d c L=> ?_⟩;unfold L9 at c;split at c
 ·rename_i t x Z;obtain⟨v,z,b,F,rfl,E,⟨u0,g,C⟩,k⟩:=q.bY 0 (.tc t [x]) rfl;have j:args=[.pointer (some ⟨b,0,none⟩)]:=by
   match args,d with
   | [a],d=>
    obtain⟨W,O,Y⟩:=d.1
    grind
  subst j;match F,k,g with
  | [D],k,g=>
  have m:w.cell? ⟨b,0,none⟩=some u0:=by rw[cell_of g];rfl
  split at c
  ·rename_i i;have i:=Qa i;subst i;injection c with c
   injection c with U c
   injection c with K c
   injection c with I G
   subst K I G;rcases C with rfl | rfl
   ·refine(J b w m (by simp[World.shape?,g]) (by simp[World.frozen?,g])).mono ?_;rintro e w' ⟨rfl,rfl⟩;refine⟨_,A,rfl,fun _ _ h=>h,?_,[],rfl,trivial⟩;rw[WC];have o:∀n,n≠b->(w.setCell ⟨b,0,none⟩ (.pointer (some ⟨b,0,none⟩))).heap[n]? =w.heap[n]? :=fun n V=>by
     simp only[World.setCell]
     grind
    obtain⟨u,_⟩:=q.write (w':=w.setCell ⟨b,0,none⟩ (.pointer (some ⟨b,0,none⟩))) (bk':= .tc t [x]) (l:=0) (b:=b) rfl rfl rfl z rfl rfl rfl rfl qbx o
     (fun s=>⟨b,[D],rfl,E,⟨.pointer (some ⟨b,0,none⟩),by simp[World.setCell,Qdw,g], .inr rfl⟩,k.1.keep s (More.refl _),trivial⟩)
    exact u.weaken fun _ _=>trivial
   ·refine(H b w m).mono ?_;rintro e w' ⟨rfl,rfl⟩;refine⟨_,A,rfl,fun _ _ h=>h,?_,[],rfl,trivial⟩;rw[WC];obtain⟨u,_⟩:=q.write (w':=w') (bk':= .tc t [x]) (l:=0) (b:=b) rfl rfl rfl z rfl rfl rfl rfl rfl (fun _ _=>rfl)
     (fun s=>⟨b,[D],rfl,E,⟨_,g, .inr rfl⟩,k.1.keep s (More.refl _),trivial⟩)
    exact u.weaken fun _ _=>trivial
  ·cases c
 ·cases c
end
def cU (a:Nat):iT U (List (List UC)):=⟨1,fun r=>[.dat (.mk a r)],fun b=>match b with
 | [.dat (.mk s r)]=>if Nat.beq s a then some r else none
 | [.val (.slice none 0 0)]=>some []
 | _=>none⟩
instance aH_ {ks:TypeId->Option (List Nat)} {gl:Nat->Option U} {mk:TypeId->Option (Bool×Nat×List Pv)} {sz:Nat}:bQ (Dv ks gl mk) (cU sz) where
 ok:=fun xs a h=>by
  simp only[cU]at h;split at h
  ·rename_i s r;split at h
   ·rename_i hs;injection h with h
    subst h;rw[Qa hs];exact⟨.inl rfl,rfl,trivial⟩
   ·cases h
  ·injection h with h
   subst h;exact⟨.inr (.inl ⟨rfl,_,rfl,rfl,rfl⟩),rfl,trivial⟩
  ·cases h
 len:=fun a=>rfl
 data:=fun a x hx=>by simp[cU]at hx;subst hx;rfl
def cV (a:Nat):iT U (List (List UC)):=⟨1,fun r=>[.dat (.mk a r)],fun b=>match b with
 | [.dat (.mk s r)]=>if Nat.beq s a then some r else none
 | _=>none⟩
instance aJH {ks:TypeId->Option (List Nat)} {gl:Nat->Option U} {mk:TypeId->Option (Bool×Nat×List Pv)} {sz:Nat}:bQ (Dv ks gl mk) (cV sz) where
 ok:=fun xs a h=>by
  simp only[cV]at h;split at h
  ·rename_i s r;split at h
   ·rename_i hs;injection h with h
    subst h;rw[Qa hs];exact⟨.inl rfl,rfl,trivial⟩
   ·cases h
  ·cases h
 len:=fun a=>rfl
 data:=fun a x hx=>by simp[cV]at hx;subst hx;rfl
section
variable {D:Type}{P:Program}{S:Sh D}
def aup (b:qF D)(g:Shp D)(k:Nat)(c:List Nat)(i:b.A->Bool)(f:b.A->g.X):Ct D:=fun args e=>
 match b.dec args e with
 | none=>none
 | some a=>if i a then(match qQ b g k c (fun _=>none) f args e with
  | some (_,r,d,h)=>some (none,r,d,h)
  | none=>none)else none
theorem asI {f:FuncId}{d:qF D}{i:Shp D}{k:Nat}{c:List Nat}{j:d.A->Bool}{m:d.A->i.X}(h:CtOk P S f (qQ d i k c (fun a=>some (j a=true)) m)):CtOk P S f (aup d i k c j m):=by
 refine⟨h.enters,fun X N x w args s q p r C E u g b A=> ?_⟩;unfold aup at b;split at b
 ·cases b
 rename_i a G;split at b
 ·rename_i B;split at b
  ·rename_i F t e l z;injection b with b
   injection b with y b
   injection b with v b
   injection b with o n
   subst y v o n;refine h.calls X N x w args s q (some (dq (j a=true))) t e l u g ?_ B;unfold qQ at z⊢
   grind
  grind
 ·cases b
end
def t0 (P:Program)(t:TypeId):Option Ty:=
 match apL P t with
 | some a=>if a.lit then none else some a
 | none=>none
theorem aBF {P:Program}:∀t a,t0 P t=some a->TyOk P t a:=fun t a h=>by
 unfold t0 at h;split at h
 ·rename_i b c;split at h
  ·cases h
  ·rename_i d;injection h with h
   subst h;unfold TyOk;rw[c];cases b
   grind
 ·cases h
def abY (a:Nat):qF U:=args (a1 (aLf (cV a)))
def aaO (a:Nat)(e:TypeId):Shp U:=shr [.slot 0 false [some e]] (l1 (cU a))
def RD (bytes:Nat)(r:List (List UC)):Pg (List (List UC)):= .unk false (fun b=>b=true->r.length=0) (.ret []) (.obD (bG (0+r.length) bytes) inferInstance (.ret r))
theorem awt {bytes:Nat}{r:List (List UC)}(h:bG (0+r.length) bytes):Is (RD bytes r)/\(RD bytes r).val=r:=
 ⟨avo ⟨false,fun e=>by cases e⟩ (fun a=>⟨fun _ _ _=>rfl,by simp_all⟩) (fun _=>⟨fun R' f e=>by simp only[Pg.runK,xN h];rfl,rfl⟩),rfl⟩
def oM (a bytes:Nat)(e:TypeId):Ct U:=aup (abY a) (aaO a e) 1 [] (fun r=>decide (bG (0+r.length) bytes)) (fun r=>r)
theorem tu {P:Program}{i:TypeId->Option (List Nat)}{j:Nat->Option U}{k:TypeId->Option (Bool×Nat×List Pv)}(d:P.follows .mixedOrders=true){f:FuncId}{a:Func}{n b bytes:Nat}{e:TypeId}(l:P.funcs[f]? =some a)(q:a.ntmps=n)(m:1<=n)(p:uS a=true)(o:a.results.toList.length=1)
  (g:∀r c,(RD bytes r).run c=(xB ⟨P,Dv i j k,t0 P,d,aBF,Cj⟩ (fun _=>none) (fun _=>none) (abY b) (aaO b e) 0 [] a n r).run c):CtOk P (Dv i j k) f (oM b bytes e):=by
 refine asI ?_;exact ahw (Z:=⟨P,Dv i j k,t0 P,d,aBF,Cj⟩) (Γ:=fun _=>none) (fun _ _ h=>by cases h) (J:=[]) (AS:=abY b) (RS:=aaO b e) (eG:=0) (n:=n) (keep:=[]) (l_ (n:=n) (Nat.ble_eq_true_of_le m)) (auf (aBY aH_)) l q p 1 o (RD bytes) (fun r=>some (decide (bG (0+r.length) bytes)=true)) (fun r c _=>g r c) (fun r=>r) fun r s=>awt (Dt s)
end Go.Vc
namespace Go.Vc
open Go.RowKit
def OU:List UInt8->List UInt8->Bool
 | [],[]=>true
 | a::r,b::c=>Nat.beq a.toNat b.toNat && OU r c
 | _,_=>false
theorem Ag:∀{a b:List UInt8},OU a b=true->a=b
 | [],[],_=>rfl
 | a::r,b::c,h=>by
  simp only[OU,iZ]at h;rw[Qb5.1 (Qa h.1),Ag h.2]
 | [],_::_,h=>by cases h
 | _::_,[],h=>by cases h
def ikN:IntKind->Nat
 | .i8=>0 | .i16=>1 | .i32=>2 | .i64=>3 | .u8=>4 | .u16=>5 | .u32=>6 | .u64=>7
theorem acA {a b:IntKind}(h:Nat.beq (ikN a) (ikN b)=true):a=b:=by
 cases a<;>cases b<;>first | rfl | cases h
def adS:Int->Int->Bool
 | .ofNat a, .ofNat b=>Nat.beq a b
 | .negSucc a, .negSucc b=>Nat.beq a b
 | _,_=>false
theorem KT {a b:Int}(h:adS a b=true):a=b:=by
 cases a<;>cases b<;>first | cases h | rw[Qa h]
def vG:Bool->Bool->Bool
 | true,true=>true
 | false,false=>true
 | _,_=>false
theorem mr {a b:Bool}(h:vG a b=true):a=b:=by cases a<;>cases b<;>first | rfl | cases h
def aoM:Pv->Pv->Bool
 | .bool a, .bool b=>vG a b
 | .int k n, .int c d=>Nat.beq (ikN k) (ikN c) && adS n d
 | .str s, .str e=>OU s e
 | _,_=>false
theorem aaD {a b:Pv}(h:aoM a b=true):a=b:=by
 cases a<;>cases b<;>first | cases h | skip
 ·rw[mr h]
 ·simp only[aoM,iZ]at h;rw[acA h.1,KT h.2]
 ·rw[Ag h]
def sG {A:Type}(f:A->A->Bool):List A->List A->Bool
 | [],[]=>true
 | a::r,b::c=>f a b && sG f r c
 | _,_=>false
theorem kU {A:Type}{f:A->A->Bool}(c:∀{a b},f a b=true->a=b):∀{a b:List A},sG f a b=true->a=b
 | [],[],_=>rfl
 | a::r,b::d,h=>by
  simp only[sG,iZ]at h;rw[c h.1,kU c h.2]
 | [],_::_,h=>by cases h
 | _::_,[],h=>by cases h
def alR:Option Ifc->Option Ifc->Bool
 | none,none=>true
 | some ⟨t,g,b⟩,some ⟨c,g',a⟩=>Nat.beq t c && (vG g g' && sG aoM b a)
 | _,_=>false
theorem aeI {a b:Option Ifc}(h:alR a b=true):a=b:=by
 cases a with
 | none=>cases b with
  | none=>rfl
  | some y=>cases h
 | some x=>
  cases b with
  | none=>cases h
  | some y=>
   cases x;cases y;simp only[alR,iZ]at h;rw[Qa h.1,mr h.2.1,kU aaD h.2.2]
def aB3:List (Pv×List Pv)->List (Pv×List Pv)->Bool:=sG fun p q=>aoM p.1 q.1 && sG aoM p.2 q.2
theorem au0 {a b:List (Pv×List Pv)}(h:aB3 a b=true):a=b:=kU (fun{p q} h=>by
 grind [kU,aaD]) h
mutual
def uBq:U->U->Bool
 | .mk s r, .mk c d=>Nat.beq s c && NC r d
 | .map a k z l, .map g b e f=>vG a g && (Nat.beq k b && (sG aoM z e && aB3 l f))
 | _,_=>false
 termination_by structural a=>a
def NC:List (List UC)->List (List UC)->Bool
 | [],[]=>true
 | a::r,b::c=>FN a b && NC r c
 | _,_=>false
 termination_by structural a=>a
def FN:List UC->List UC->Bool
 | [],[]=>true
 | a::r,b::c=>ajX a b && FN r c
 | _,_=>false
 termination_by structural a=>a
def ajX:UC->UC->Bool
 | .bool a, .bool b=>vG a b
 | .int k n, .int c d=>Nat.beq (ikN k) (ikN c) && adS n d
 | .str s, .str f=>OU s f
 | .dat u, .dat g=>uBq u g
 | .Xw v, .Xw e=>alR v e
 | _,_=>false
 termination_by structural a=>a
end
mutual
theorem D_:∀{a b:U},uBq a b=true->a=b
 | .mk s r, .mk d e,h=>by
  simp only[uBq,iZ]at h;rw[Qa h.1,Yn h.2]
 | .map a k z l, .map i c f g,h=>by
  simp only[uBq,iZ]at h;rw[mr h.1,Qa h.2.1,kU aaD h.2.2.1,au0 h.2.2.2]
 | .mk _ _, .map _ _ _ _,h=>by simp[uBq]at h
 | .map _ _ _ _, .mk _ _,h=>by simp[uBq]at h
theorem Yn:∀{a b:List (List UC)},NC a b=true->a=b
 | [],[],_=>rfl
 | a::r,b::c,h=>by
  simp only[NC,iZ]at h;rw[WG h.1,Yn h.2]
 | [],_::_,h=>by simp[NC]at h
 | _::_,[],h=>by simp[NC]at h
theorem WG:∀{a b:List UC},FN a b=true->a=b
 | [],[],_=>rfl
 | a::r,b::c,h=>by
  simp only[FN,iZ]at h;rw[ayc h.1,WG h.2]
 | [],_::_,h=>by simp[FN]at h
 | _::_,[],h=>by simp[FN]at h
theorem ayc:∀{a b:UC},ajX a b=true->a=b
 | .bool a,b,h=>by
  cases b<;>simp only[ajX]at h<;>first | rw[mr h] | cases h
 | .int k n,b,h=>by
  cases b<;>simp only[ajX,iZ]at h<;>first | rw[acA h.1,KT h.2] | cases h
 | .str s,b,h=>by
  cases b<;>simp only[ajX]at h<;>first | rw[Ag h] | cases h
 | .dat u,b,h=>by
  cases b<;>simp only[ajX]at h<;>first | rw[D_ h] | cases h
 | .Xw v,b,h=>by
  cases b<;>simp only[ajX]at h<;>first | rw[aeI h] | cases h
end
def azN:Dl U->Dl U->Bool
 | .bool a, .bool b=>vG a b
 | .int k n, .int c d=>Nat.beq (ikN k) (ikN c) && adS n d
 | .str s, .str e=>OU s e
 | .dat u, .dat f=>uBq u f
 | .axs, .axs=>true
 | _,_=>false
theorem alo {a b:Dl U}(h:azN a b=true):a=b:=by
 cases a<;>cases b<;>first | cases h | skip
 ·rw[mr h]
 ·simp only[azN,iZ]at h;rw[acA h.1,KT h.2]
 ·rw[Ag h]
 ·rw[D_ h]
 ·rfl
def avq:Xt U->Xt U->Bool
 | .ifd t g c, .ifd b g' a=>Nat.beq t b && (vG g g' && sG azN c a)
 | .clo t g c, .clo b g' a=>Nat.beq t b && (vG g g' && sG azN c a)
 | .clip d, .clip e=>uBq d e
 | _,_=>false
theorem aAQ {a b:Xt U}(h:avq a b=true):a=b:=by
 cases a<;>cases b<;>first | cases h | skip
 ·simp only[avq,iZ]at h;rw[Qa h.1,mr h.2.1,kU alo h.2.2]
 ·simp only[avq,iZ]at h;rw[Qa h.1,mr h.2.1,kU alo h.2.2]
 ·simp only[avq]at h;rw[D_ h]
def awl:Value->Value->Bool
 | .bool a, .bool b=>vG a b
 | .pointer none, .pointer none=>true
 | .slice none n m, .slice none c d=>Nat.beq n c && Nat.beq m d
 | .map none, .map none=>true
 | .nilFunc, .nilFunc=>true
 | .nilIface, .nilIface=>true
 | _,_=>false
theorem awh {a b:Value}(h:awl a b=true):a=b:=by
 unfold awl at h;split at h
 ·rw[mr h]
 ·rfl
 ·simp_all
 ·rfl
 ·rfl
 ·rfl
 ·cases h
def awS (a b:Nat):Bool:=Nat.beq a b
theorem af5 {a b:Nat}(h:awS a b=true):a=b:=Qa h
def an6:Lf U->Lf U->Bool
 | .val a, .val b=>awl a b
 | .bool a, .bool b=>vG a b
 | .int k n, .int p t=>Nat.beq (ikN k) (ikN p) && adS n t
 | .str s, .str y=>OU s y
 | .ptr l o, .ptr g o'=>Nat.beq l g && Nat.beq o o'
 | .dat u, .dat m=>uBq u m
 | .elt u i j, .elt m d h=>Nat.beq i d && (Nat.beq j h && uBq u m)
 | .fn f c, .fn r q=>Nat.beq f r && sG awS c q
 | .own l, .own g=>Nat.beq l g
 | .opt l i j k, .opt g d h p=>Nat.beq l g && (Nat.beq i d && (Nat.beq j h && Nat.beq k p))
 | .glb i, .glb d=>Nat.beq i d
 | .Xw v, .Xw x=>alR v x
 | .xt e, .xt w=>avq e w
 | _,_=>false
theorem Q8 {a b:Lf U}(h:an6 a b=true):a=b:=by
 unfold an6 at h;split at h
 ·rw[awh h]
 ·rw[mr h]
 ·grind [acA,KT]
 ·rw[Ag h]
 ·simp_all
 ·rw[D_ h]
 ·simp only[iZ]at h;rw[Qa h.1,Qa h.2.1,D_ h.2.2]
 ·rw[iZ]at h;rw[Qa h.1,kU af5 h.2]
 ·simp_all
 ·simp_all
 ·simp_all
 ·rw[aeI h]
 ·rw[aAQ h]
 ·cases h
def aDI:Sv U->Sv U->Bool
 | .lf x, .lf y=>an6 x y
 | .agg a, .agg b=>sG an6 a b
 | _,_=>false
theorem al7 {a b:Sv U}(h:aDI a b=true):a=b:=by
 cases a<;>cases b<;>first | cases h | skip
 ·rw[Q8 h]
 ·rw[kU Q8 h]
def aD8:Sl U->Sl U->Bool
 | .one x, .one y=>aDI x y
 | .Dh a, .Dh b=>sG aDI a b
 | _,_=>false
theorem akZ {a b:Sl U}(h:aD8 a b=true):a=b:=by
 cases a<;>cases b<;>first | cases h | skip
 ·rw[al7 h]
 ·rw[kU al7 h]
def apN:Bk U->Bk U->Bool
 | .cells c, .cells f=>sG an6 c f
 | .row e d, .row j g=>Nat.beq e j && uBq d g
 | .wY d, .wY g=>uBq d g
 | .iter s n, .iter k i=>Nat.beq n i && OU s k
 | .map a, .map b=>uBq a b
 | .tc t c, .tc h f=>Nat.beq t h && sG an6 c f
 | _,_=>false
theorem akD {a b:Bk U}(h:apN a b=true):a=b:=by
 cases a<;>cases b<;>first | cases h | skip
 ·rw[kU Q8 h]
 ·simp only[apN,iZ]at h;rw[Qa h.1,D_ h.2]
 ·rw[D_ h]
 ·simp only[apN,iZ]at h;rw[Qa h.1,Ag h.2]
 ·rw[D_ h]
 ·simp only[apN,iZ]at h;rw[Qa h.1,kU Q8 h.2]
abbrev Res:=Sl U×List (Nat×Bk U)×List Nat
def aC4:Nat×Bk U->Nat×Bk U->Bool
 | (n,b),(c,a)=>Nat.beq n c && apN b a
theorem axV {a b:Nat×Bk U}(h:aC4 a b=true):a=b:=by
 cases a;cases b;simp only[aC4,iZ]at h;rw[Qa h.1,akD h.2]
def qj (h:Ct U)(args:List (Sl U))(f:List (Bk U))(e:Res):Bool:=
 match h args f with
 | some (none,r,d,c)=>(match e with
  | (g,b,a)=>aD8 r g && (sG aC4 d b && sG awS c a))
 | _=>false
theorem UT {b:Ct U}{args:List (Sl U)}{c:List (Bk U)}{a:Res}(h:qj b args c a=true):b args c=some (none,a):=by
 unfold qj at h
 grind [kU,af5,axV,akZ]
def aaR (b:List (Sl U))(a:List (Bk U))(c:Res):Ct U:=fun args d=>
 match sG aD8 args b && sG apN d a with
 | true=>some (none,c)
 | false=>none
section
variable {P:Program}{S:Sh U}
theorem aAq {f:FuncId}{e:Ct U}{c:List (Sl U)}{b:List (Bk U)}{a:Res}(h:CtOk P S f e)(m:qj e c b a=true):CtOk P S f (aaR c b a):=by
 refine⟨h.enters,fun X N g w args n l p r j o q k d i=> ?_⟩;unfold aaR at d
 grind [CtOk.calls,akD,UT,kU,akZ]
end
section
variable {D:Type}{P:Program}{S:Sh D}
def agw:List (Nat×Ct D)->FuncId->Option (Ct D)
 | [],_=>none
 | (n,c)::r,f=>(match Nat.beq n f with
  | true=>(match agw r f with
   | some a=>some (as9 c a)
   | none=>some c)
  | false=>agw r f)
theorem ab1:∀{l:List (Nat×Ct D)} (h:∀p∈l,CtOk P S p.1 p.2) (f:FuncId) (a:Ct D),agw l f=some a->CtOk P S f a
 | [],_,f,a,h=>by cases h
 | (n,c)::r,b,f,a,h=>by
  unfold agw at h;split at h
  ·rename_i d;have d:=Qa d;subst d;have i:=b (n,c) jQ;split at h
   ·rename_i j g;injection h with h
    subst h;exact acz i (ab1 (fun p e=>b p (by simp[e])) _ _ g)
   grind
  ·exact ab1 (fun p e=>b p (by simp[e])) f a h
end
def xy {D:Type}(args:List (Sl D)):Option (Sl D):=match args with
 | [.one (.lf (.str s)), .one (.lf (.int .u8 c))]=>some (.one (.lf (.int .i64 (Lib.indexByte s c.toNat.toUInt8))))
 | _=>none
def WL {D:Type}(args:List (Sl D)):Option (Sl D):=match args with
 | [.one (.lf (.str s)), .one (.lf (.str [c]))]=>some (.one (.lf (.int .i64 (Lib.countByte s c))))
 | _=>none
def TN (P:Program)(a:Nat->Option U):Sh U:=Dv (ksU P) a (mkU P)
noncomputable def aoZ (P:Program)(b:Nat->Option U)(a:List (Nat×Ct U))(m k f:Nat):Ct U:=
 match aap P (tyU P) (TN P b) (agw a) m k f with
 | some c=>c
 | none=>fun _ _=>none
noncomputable def goU (P:Program)(a:List (Nat×Ct U))(k f:Nat):Ct U:=aoZ P (fun _=>none) a 100 k f
theorem al9 {P:Program}{b:Nat->Option U}{a:List (Nat×Ct U)}{m k f:Nat}(d:P.follows .mixedOrders=true)(g:ShOk (TN P b))(c:∀p∈a,CtOk P (TN P b) p.1 p.2)(e:(aap P (tyU P) (TN P b) (agw a) m k f).isSome=true):CtOk P (TN P b) f (aoZ P b a m k f):=by
 unfold aoZ
 grind [ak8,ab1,aEf]
theorem G8 {P:Program}{e:Nat->Option U}{d:List (Nat×Ct U)}{m k f:Nat}{a:List (Sl U)}{b:List (Bk U)}{r:Res}(h:qj (aoZ P e d m k f) a b r=true):(aap P (tyU P) (TN P e) (agw d) m k f).isSome=true:=by
 unfold aoZ at h;cases g:aap P (tyU P) (TN P e) (agw d) m k f with
 | some c=>rfl
 | none=>rw[g]at h;cases h
theorem F7 {P:Program}{d:Nat->Option U}{c:List (Nat×Ct U)}{m k f:Nat}{a:List (Sl U)}{b:List (Bk U)}{r:Res}(g:P.follows .mixedOrders=true)(i:ShOk (TN P d))(e:∀p∈c,CtOk P (TN P d) p.1 p.2)(h:qj (aoZ P d c m k f) a b r=true):∀p∈((f,aaR a b r)::c:List (Nat×Ct U)),CtOk P (TN P d) p.1 p.2:=by
 grind [aAq,al9,G8]
end Go.Vc
namespace Go.Vc
open Go.RowKit
def ctB (D:Type)(b:Bool):Ct D:=fun args a=>
 match args,a with
 | [],[]=>some (none, .one (.lf (.bool b)),[],[])
 | _,_=>none
def isB {D:Type}(b:Bool):Sl D->Bool
 | .one (.lf (.bool c))=>vG b c
 | .one (.lf (.val (.bool c)))=>vG b c
 | _=>false
theorem axY {D:Type}{S:Sh D}{M:Nat->Prop}{w:World}{g:Nat->Option Value}{b:Bool}{r:Sl D}{v:Value}(h:isB b r=true)(a:r.Rel S M w g v):v= .bool b:=by
 unfold isB at h;split at h
 ·rw[mr h];exact a
 ·rw[mr h];exact a
 ·cases h
theorem aDR {D o:Type}{S:Sh D}{t:Sh o}{P:Program}{f:FuncId}{z:Ct o}{b:Bool}{r:Sl o}(W:t.MB=fun _=>none)(h:CtOk P t f z)(G:z [] []=some (none,r,[],[]))(m:isB b r=true):CtOk P S f (ctB D b):=by
 refine⟨h.enters,fun X N g w args lq Z p r' Q kp q x c M=> ?_⟩;unfold ctB at c;split at c
 ·injection c with c
  injection c with K c
  injection c with I c
  injection c with E C
  subst K I E C;have R:args=[]:=by
   cases args with
   | nil=>rfl
   | cons a r=>cases x
  subst R;have y:∀l,jD ([]:List (Bk o)) l=none:=fun l=>by simp[jD]
  have B:Hp t ⟨w,fun _=>False⟩ N (jD []) g (· < ([]:List (Bk o)).length) w:=
   ⟨xX.refl _,fun b m=>⟨(q.hN b m).1,fun e=>e⟩,fun l A n=>dm,fun l U v O b n=>(by rw[y]at n;cases n),q.al,q.refs,fun i d Y=>dm⟩
  refine(h.calls (fun _=>False) N g w [] [] [] none r [] [] B trivial G trivial).mono ?_;rintro e w' ⟨v,g',rfl,V,j,J⟩;have u:∀l,yf [] [] ([]:List (Bk D)) l=none:=fun l=>by rfl
  have s:∀{l},hot (yf [] [] ([]:List (Bk D)) l)=true->False:=fun{l} e=>by rw[u]at e;cases e
  have T:∀b,aS N (yf [] [] ([]:List (Bk D))) g' b->N b:=fun b m=>by
   rcases m with m | ⟨l,_,n,_⟩
   ·exact m
   ·exact(s n).elim
  have H:xX ⟨w,X⟩ w':=⟨j.below.os,j.below.tape,j.below.output,j.below.size,fun k F _=>j.below.block k F (fun e=>e)⟩;refine⟨v,g',rfl,V,⟨H,q.hN,fun l A n=>dm,fun l U v O b n=>(s n).elim,fun _ _ _=>trivial,j.refs,q.gl.keep ⟨j.below.size,fun b m L=>⟨fun e=>L (.inl (T b e)),j.below.block b m (fun e=>e)⟩⟩⟩,?_⟩;rw[axY m J];rfl
 ·cases c
section
variable {D:Type}{P:Program}{S:Sh D}
theorem enters_of {f:FuncId}{a:Func}(d:P.funcs[f]? =some a)(e:a.body.isSome=true)(b:(a.name== "runtime.NumGoroutine")=false)(args:Array Value)(w:World):(callFunc f args).run P w= .ok (.enter f args) w:=by
 obtain⟨c,g⟩:=Qbj.1 e;have b:¬a.name= "runtime.NumGoroutine" :=by simpa using b
 simp[callFunc,d,b,g]
theorem TC {f:FuncId}(g:∀(args:Array Value) (w:World),(callFunc f args).run P w= .ok (.enter f args) w)
  (h:∀(s:ByteArray) (c:Int) (w:World),Calls P f #[.string s, .int .u8 c] w fun e j=>e= .returned (.int .i64 (Lib.indexByte s.data.toList c.toNat.toUInt8))/\j=w):CtOk P S f (zC xy):=by
 refine Z_ g fun M w m args d r b a=> ?_;unfold xy at b;split at b
 ·rename_i s c;injection b with b
  subst b;match d,a with
  | [n,k],a=>
   obtain⟨⟨i,_⟩,l,_⟩:=a;rw[i,show k= .int .u8 c from l];exact⟨_,h _ _ _,rfl⟩
 ·cases b
theorem aiA {f:FuncId}(g:∀(args:Array Value) (w:World),(callFunc f args).run P w= .ok (.enter f args) w)
  (h:∀(s:ByteArray) (c:UInt8) (w:World),Calls P f #[.string s, .string ⟨#[c]⟩] w fun e j=>e= .returned (.int .i64 (Lib.countByte s.data.toList c))/\j=w):CtOk P S f (zC WL):=by
 refine Z_ g fun M w l args d r b a=> ?_;unfold WL at b;split at b
 ·rename_i s c;injection b with b
  subst b;match d,a with
  | [m,n],a=>
   obtain⟨⟨i,_⟩,⟨k,_⟩,_⟩:=a;rw[i,k];exact⟨_,h _ _ _,rfl⟩
 ·cases b
end
end Go.Vc
namespace Go.Vc
open Go.RowKit
section
variable {D:Type}
def Tr.line:{R:Type}->Tr D R->Option (Prop×R)
 | _, .ret r=>some (True,r)
 | _, .ob p k=>(match k.line with
  | some (q,r)=>some (p.p/\q,r)
  | none=>none)
 | _, .as _ k=>k.line
 | _, .br b t e=>cond b t.line e.line
 | _, .stuck _=>none
 | _, .halt _ _=>none
 | _, .unk _ _ _=>none
 | _, .loop _ _ _=>none
 | _, .cut _ _ _=>none
theorem Tr.EM:∀{R:Type} (t:Tr D R) (q:Prop) (r:R),t.line=some (q,r)->q->t.run r=some r
 | _, .ret r,q,a,h,_=>by injection h with h;injection h with _ h;subst h;rfl
 | _, .ob p k,q,a,h,c=>by
  simp only[Tr.line]at h;split at h
  ·rename_i i d g;injection h with h
   injection h with f j
   subst f j;simp only[Tr.run];rw[xN c.1];exact Tr.EM k i d g c.2
  ·cases h
 | _, .as p k,q,a,h,c=>by
  have:=Tr.EM k q a h c;simp only[Tr.run]
  grind [CO,yJ]
 | _, .br b t e,q,a,h,c=>by
  cases b with
  | true=>exact Tr.EM t q a h c
  | false=>exact Tr.EM e q a h c
 | _, .stuck _,q,a,h,_=>by cases h
 | _, .halt _ _,q,a,h,_=>by cases h
 | _, .unk _ _ _,q,a,h,_=>by cases h
 | _, .loop _ _ _,q,a,h,_=>by cases h
 | _, .cut _ _ _,q,a,h,_=>by cases h
def ctI (T:TypeId->Option Ty)(S:Sh D)(e:FuncId->Option (Ct D))(a:Func):Ct D:=fun args d=>
 if Nat.ble args.length a.ntmps then
  (match(evC T S e a.ntmps (fun _=>none) (AA a) (an3 D) (St.init args d) (aCB T S a.results.toList d.length)).line with
  | none=>none
  | some (q,r,c,b)=>some (some (dq q),r,c,b))else none
end
section
variable {D:Type}{P:Program}{S:Sh D}{T:TypeId->Option Ty}{Γ:FuncId->Option (Ct D)}{N:Nat->Prop}{w w':World}{w0:Bs}{g0:Nat->Option Value}{n:Nat}{al:Nat->Prop}{g:Nat->Option Value}{blk:Nat->Option (Bk D)}{ids:List Nat}
theorem aFG {f:FuncId}{j:Func}(v:P.follows .mixedOrders=true)(k:∀t x,T t=some x->TyOk P t x)(B:∀f s,Γ f=some s->CtOk P S f s)(G:ShOk S)(u:P.funcs[f]? =some j)(D:uS j=true):CtOk P S f (ctI T S Γ j):=by
 simp only[uS,iZ,Qdp,ne_eq]at D;obtain⟨K,M,C⟩:=D;obtain⟨c,m⟩:=Qbj.1 K;have A:AA j=c:=by simp[AA,m]
 refine⟨fun args w=>by simp[callFunc,u,M,m],fun X N g w args V U p r R W y l a n=> ?_⟩;unfold ctI at a;split at a
 ·rename_i d;have d:=Qat d;split at a
  ·cases a
  rename_i q Y F E b;injection a with a
  injection a with Q a
  injection a with O a
  injection a with L H
  subst Q O L H;have b:=Tr.EM _ _ _ b n;rw[A]at b C;refine calls_of_wp u m (ev_sound (J:=fun _=>none) (fun _ _ h=>by cases h) v k B G (w0:=⟨w,X⟩) (N:=N) c _ _ _ _ _ _ _ w C b (BK y l d) fun e s' Z w' I o _ z=> ?_);cases e with
  | exit i=>cases z
  | _=>exact Ut k y o I (adT z)
 ·cases a
def aHz (Z:Seat D)(l:List (bi Z))(f:FuncId){a:Func}(b:Z.P.funcs[f]? =some a)(c:uS a=true):bi Z:=
 ⟨f,ctI Z.T Z.S (Di l) a,aFG Z.mx Z.hT (fun _ _ h=>Fz h) Z.hS b c⟩
end
section
variable {D:Type}
def Tr.road:List Bool->{R:Type}->Tr D R->Option (Prop×R)
 | _,_, .ret r=>some (True,r)
 | cs,_, .ob p k=>(match k.road cs with
  | some (q,r)=>some (p.p/\q,r)
  | none=>none)
 | cs,_, .as _ k=>k.road cs
 | c::cs,_, .br b t e=>(match c with
  | true=>(match t.road cs with
   | some (q,r)=>some (b=true/\q,r)
   | none=>none)
  | false=>(match e.road cs with
   | some (q,r)=>some (b=false/\q,r)
   | none=>none))
 | [],_, .br _ _ _=>none
 | _,_, .stuck _=>none
 | _,_, .halt _ _=>none
 | _,_, .unk _ _ _=>none
 | _,_, .loop _ _ _=>none
 | _,_, .cut _ _ _=>none
theorem Tr.EP:∀(cs:List Bool) {R:Type} (t:Tr D R) (q:Prop) (r:R),t.road cs=some (q,r)->q->t.run r=some r
 | cs,_, .ret r,q,a,h,_=>by
  simp only[Tr.road]at h;injection h with h;injection h with _ h;subst h;rfl
 | cs,_, .ob p k,q,a,h,d=>by
  simp only[Tr.road]at h;split at h
  ·rename_i j f i;injection h with h
   injection h with g l
   subst g l;simp only[Tr.run];rw[xN d.1];exact Tr.EP cs k j f i d.2
  ·cases h
 | cs,_, .as p k,q,a,h,d=>by
  simp only[Tr.road]at h;have:=Tr.EP cs k q a h d;simp only[Tr.run]
  grind [CO,yJ]
 | c::cs,_, .br b t e,q,a,h,d=>by
  simp only[Tr.road]at h;cases c with
  | true=>
   dsimp only at h;split at h
   ·rename_i j f i;injection h with h
    injection h with g l
    subst g l;simp only[Tr.run,d.1,cond_true];exact Tr.EP cs t j f i d.2
   ·cases h
  | false=>
   dsimp only at h;split at h
   ·rename_i j f i;injection h with h
    injection h with g l
    subst g l;simp only[Tr.run,d.1,lL];exact Tr.EP cs e j f i d.2
   ·cases h
 | [],_, .br _ _ _,q,a,h,_=>by simp[Tr.road]at h
 | cs,_, .stuck _,q,a,h,_=>by simp[Tr.road]at h
 | cs,_, .halt _ _,q,a,h,_=>by simp[Tr.road]at h
 | cs,_, .unk _ _ _,q,a,h,_=>by simp[Tr.road]at h
 | cs,_, .loop _ _ _,q,a,h,_=>by simp[Tr.road]at h
 | cs,_, .cut _ _ _,q,a,h,_=>by simp[Tr.road]at h
def aEP (T:TypeId->Option Ty)(S:Sh D)(e:FuncId->Option (Ct D))(a:Func)(cs:List Bool):Ct D:=fun args d=>
 if Nat.ble args.length a.ntmps then
  (match(evC T S e a.ntmps (fun _=>none) (AA a) (an3 D) (St.init args d) (aCB T S a.results.toList d.length)).road cs with
  | none=>none
  | some (q,r,c,b)=>some (some (dq q),r,c,b))else none
end
section
variable {D:Type}{P:Program}{S:Sh D}{T:TypeId->Option Ty}{Γ:FuncId->Option (Ct D)}{N:Nat->Prop}{w w':World}{w0:Bs}{g0:Nat->Option Value}{n:Nat}{al:Nat->Prop}{g:Nat->Option Value}{blk:Nat->Option (Bk D)}{ids:List Nat}
theorem aAC {f:FuncId}{j:Func}{cs:List Bool}(v:P.follows .mixedOrders=true)(k:∀t x,T t=some x->TyOk P t x)(B:∀f s,Γ f=some s->CtOk P S f s)(G:ShOk S)(u:P.funcs[f]? =some j)(D:uS j=true):CtOk P S f (aEP T S Γ j cs):=by
 simp only[uS,iZ,Qdp,ne_eq]at D;obtain⟨K,M,C⟩:=D;obtain⟨c,m⟩:=Qbj.1 K;have A:AA j=c:=by simp[AA,m]
 refine⟨fun args w=>by simp[callFunc,u,M,m],fun X N g w args V U p r R W y l a n=> ?_⟩;unfold aEP at a;split at a
 ·rename_i d;have d:=Qat d;split at a
  ·cases a
  rename_i q Y F E b;injection a with a
  injection a with Q a
  injection a with O a
  injection a with L H
  subst Q O L H;have b:=Tr.EP cs _ _ _ b n;rw[A]at b C;refine calls_of_wp u m (ev_sound (J:=fun _=>none) (fun _ _ h=>by cases h) v k B G (w0:=⟨w,X⟩) (N:=N) c _ _ _ _ _ _ _ w C b (BK y l d) fun e s' Z w' I o _ z=> ?_);cases e with
  | exit i=>cases z
  | _=>exact Ut k y o I (adT z)
 ·cases a
def aHd (Z:Seat D)(l:List (bi Z))(f:FuncId){a:Func}(cs:List Bool)(b:Z.P.funcs[f]? =some a)(c:uS a=true):bi Z:=
 ⟨f,aEP Z.T Z.S (Di l) a cs,aAC Z.mx Z.hT (fun _ _ h=>Fz h) Z.hS b c⟩
theorem aDo {f:FuncId}{g:qF D}{j:Shp D}{k:Nat}{e:List Nat}{c:g.A->Bool}{p:g.A->Prop}{f1 f2:g.A->j.X}(m:CtOk P S f (qQ g j k e (fun a=>some (c a=true/\p a)) f1))
  (A:CtOk P S f (qQ g j k e (fun a=>some (c a=false/\p a)) f2)):CtOk P S f (qQ g j k e (fun a=>some (p a)) (fun a=>bif c a then f1 a else f2 a)):=by
 refine⟨m.enters,fun X N t w args o n q r E F s i b d=> ?_⟩;unfold qQ at b;split at b
 ·cases b
 rename_i a v;injection b with b
 injection b with C b
 injection b with B b
 injection b with y x
 subst C B y x;have d:p a:=d;have u:∀z,(bif c a then f1 a else f2 a)=z->(fun a=>bif c a then f1 a else f2 a) a=z:=fun z h=>h
 cases l:c a with
 | true=>
  rw[u _ (by rw[l])];exact m.calls X N t w args o n (some (dq (c a=true/\p a))) _ _ _ s i (by unfold qQ;rw[v];rfl) ⟨l,d⟩
 | false=>
  rw[u _ (by rw[l])];exact A.calls X N t w args o n (some (dq (c a=false/\p a))) _ _ _ s i (by unfold qQ;rw[v];rfl) ⟨l,d⟩
end
end Go.Vc

/- Own engine: Vea, Veb, Vec, Veg, Veh, Vej. -/
import Derived.Test.YtebmficbjhcohaaGreatDoorEng13
import Derived.Lib.Bytealg
set_option linter.unusedVariables false
set_option linter.unusedSimpArgs false
namespace Go.Vc
open Go.RowKit
mutual
inductive U where
 | mk (sz:Nat) (rows:List (List UC))
 | map (ag:Bool) (kd:Nat) (z:List Pv) (kvs:List (Pv×List Pv))
inductive UC where
 | bool (b:Bool)
 | int (k:IntKind) (n:Int)
 | str (s:List UInt8)
 | dat (u:U)
 | O_ (v:Option zF)
end
def U.size:U->Nat
 | .mk a _=>a
 | .map _ _ _ _=>0
def U.rows:U->List (List UC)
 | .mk _ r=>r
 | .map _ _ _ _=>[]
def U.Au:U->Option (Mp U)
 | .mk _ _=>none
 | .map c b z a=>if a.all (fun p=>Nat.beq p.1.kind b)then some ⟨b,c,z,a,fun k=>(x9 k a).isSome,fun k=>((x9 k a).getD z).map Pv.lf,fun k d=> .map c b z (Ju k d a),a.length⟩else none
theorem Xu {V:Type}{a:Nat}{k:Pv}{v:V}(b:k.kind=a):∀l:List (Pv×V),l.all (fun p=>Nat.beq p.1.kind a)=true->(Ju k v l).all (fun p=>Nat.beq p.1.kind a)=true
 | [],_=>by simp[Ju,b]
 | p::r,h=>by
  simp only[Qci,iT]at h;unfold Ju;split
  ·simp only[Qci,iT];exact h
  ·simp only[Qci,iT];exact⟨h.1,Xu b r h.2⟩
def UC.lf:UC->Lf U
 | .bool b=> .bool b
 | .int k n=> .int k n
 | .str s=> .str s
 | .dat u=> .dat u
 | .O_ v=> .O_ v
theorem UC.data (c:UC):c.lf.jE=true:=by cases c<;>rfl
def aER (k:Nat):Lf U->Option UC
 | .bool b=>some (.bool b)
 | .val (.bool b)=>some (.bool b)
 | .int k n=>some (.int k n)
 | .str s=>some (.str s)
 | .dat u=>some (.dat u)
 | .O_ v=>some (.O_ v)
 | .val (.slice none 0 0)=>some (.dat (.mk k []))
 | _=>none
def Ik:List Nat->List (Lf U)->Option (List UC)
 | [],[]=>some []
 | k::ks,x::a=>(match aER k x,Ik ks a with
  | some c,some cs=>some (c::cs)
  | _,_=>none)
 | _,_=>none
def CB (r:List (List UC))(i j:Nat):Lf U:=
 match r[i]? with
 | some cs=>(match cs[j]? with
  | some c=>c.lf
  | none=> .bool false)
 | none=> .bool false
def chunk (a:List Nat):Nat->List (Lf U)->Option (List (List UC))
 | 0,[]=>some []
 | 0,_::_=>none
 | n+1,b=>if Nat.ble a.length b.length then(match Ik a (b.take a.length),chunk a n (b.drop a.length)with
  | some r,some c=>some (r::c)
  | _,_=>none)else none
def abH:List UC->List Nat
 | []=>[]
 | .dat u::r=>u.size::abH r
 | _::r=>0::abH r
def aCL (b:Nat)(r:List (List UC))(i j:Nat)(a:List (Lf U)):Option U:=
 match r[i]? with
 | none=>none
 | some cs=>if Nat.ble (j+a.length) b && Nat.beq cs.length b then(match Ik (((abH cs).drop j).take a.length) a with
  | some c=>some (.mk b (r.set i (cs.take j++(c++cs.drop (j+c.length)))))
  | none=>none)else none
def Dh (ks:TypeId->Option (List Nat))(gl:Nat->Option U)(mk:TypeId->Option (Bool×Nat×List Pv):=fun _=>none):Sh U where
 size:=U.size
 len:=fun u=>u.rows.length
 cell:=fun u i j=>CB u.rows i j
 make:=fun e n xs=>match ks e with
  | some k=>(match chunk k n xs with
   | some r=>some (.mk k.length r)
   | none=>none)
  | none=>none
 zero:=fun e n xs=>match ks e with
  | some k=>(match Ik k xs with
   | some r=>some (.mk k.length (List.replicate n r))
   | none=>none)
  | none=>none
 set:=fun u i j xs=>aCL u.size u.rows i j xs
 cat:=fun a b=>if Nat.beq a.size b.size then some (.mk a.size (a.rows++b.rows))else none
 sub:=fun u i j=>match u with
  | .mk sz rows=>some (.mk sz ((rows.take j).drop i))
  | .map _ _ _ _=>none
 KR:=fun i=>match gl i with
  | some (.mk sz rows)=>some (.mk sz rows)
  | _=>none
 run:=true
 mp:=U.Au
 aoi:=fun t=>match mk t with
  | some (ag,kd,z)=>some (.map ag kd z [])
  | none=>none
 text:=fun _ s=>some (.mk 1 (s.map fun b=>[.int .u8 b.toNat]))
section
variable {ks:TypeId->Option (List Nat)}{gl:Nat->Option U}{mk:TypeId->Option (Bool×Nat×List Pv)}
theorem rP {a:Nat}{r:List (List UC)}:(U.mk a r).rows=r:=rfl
theorem awU {k:Nat}{x:Lf U}{c:UC}(h:aER k x=some c):x.Le (Dh ks gl mk) c.lf:=by
 unfold aER at h;split at h<;>first | (injection h with h;subst h;exact .inl rfl) | skip
 ·injection h with h;subst h;exact .inr (.inr (.inl ⟨_,rfl,rfl⟩))
 ·injection h with h;subst h;exact .inr (.inl ⟨rfl,_,rfl,rfl,rfl⟩)
 ·cases h
theorem Jq:∀{k:List Nat} {a:List (Lf U)} {cs:List UC},Ik k a=some cs->cs.length=k.length/\a.length=k.length/\∀(j:Nat) (x:Lf U),a[j]? =some x->∃c,cs[j]? =some c/\x.Le (Dh ks gl mk) c.lf
 | [],[],cs,h=>by simp[Ik]at h;subst h;simp
 | k::kr,x::a,cs,h=>by
  unfold Ik at h;split at h
  ·rename_i c l i e;injection h with h
   subst h;obtain⟨f,d,g⟩:=Jq e;refine⟨by simp[f],by simp[d],fun j y b=> ?_⟩;cases j with
   | zero=>simp at b;subst b;exact⟨c,rfl,awU i⟩
   | succ j=>simpa using g j y (by simpa using b)
  ·cases h
 | [],_::_,cs,h=>by simp[Ik]at h
 | _::_,[],cs,h=>by simp[Ik]at h
theorem aef {k:List Nat}:∀{n:Nat} {a:List (Lf U)} {r:List (List UC)},chunk k n a=some r->r.length=n/\a.length=n*k.length/\∀i j,i < n->j < k.length->∃x,a[i*k.length+j]? =some x/\x.Le (Dh ks gl mk) (CB r i j)
 | 0,[],r,h=>by simp[chunk]at h;subst h;exact⟨rfl,by simp,fun i j l=>by omega⟩
 | 0,_::_,r,h=>by simp[chunk]at h
 | n+1,a,r,h=>by
  unfold chunk at h;split at h
  ·rename_i f;have f:=U5 f;split at h
   ·rename_i c w q o;injection h with h
    subst h;obtain⟨p,s,t⟩:=aef o;obtain⟨y,v,m⟩:=Jq (ks:=ks) (gl:=gl) (mk:=mk) q;have u:a.length=k.length+n*k.length:=by
     rw[Qbe]at s;omega
    refine⟨by simp[p],by rw[u,Qcf];omega,fun i j l g=> ?_⟩;cases i with
    | zero=>
     rw[Nat.zero_mul,FQ];have d:j < (a.take k.length).length:=by rw[zC];omega
     obtain⟨z,b,e⟩:=m j _ (Ph d);refine⟨(a.take k.length)[j],by rw[<-Qdk g];exact Ph d,?_⟩;simp only[CB,Qby,b];exact e
    | succ i=>
     obtain⟨x,b,e⟩:=t i j au g;refine⟨x,?_,?_⟩
     ·rw[Qbj]at b;rw[Qcf,show i*k.length+k.length+j=k.length+(i*k.length+j) by omega];exact b
     ·simpa[CB]using e
   ·cases h
  ·cases h
theorem Ba:iL (Dh ks gl mk) where
 Wv:=fun e n cs d h=>by
  simp only[Dh]at h;split at h
  ·split at h
   ·injection h with h;subst h;rfl
   ·cases h
  ·cases h
 Wx:=fun e n zs d h=>by
  simp only[Dh]at h;split at h
  ·split at h
   ·injection h with h;subst h;rfl
   ·cases h
  ·cases h
 aBS:=fun d i j xs d' h _=>by
  simp only[Dh]at h;unfold aCL at h;split at h
  ·cases h
  ·split at h
   ·split at h
    ·injection h with h;subst h;rfl
    ·cases h
   ·cases h
 Wu:=fun d1 d2 d h=>by
  simp only[Dh]at h;split at h
  ·injection h with h;subst h;rfl
  ·cases h
 Et:=fun d i j d' h=>by
  simp only[Dh]at h;split at h
  ·injection h with h;subst h;exact⟨rfl,rfl⟩
  ·cases h
 aFW:=fun e s d h=>by
  simp only[Dh]at h;injection h with h;subst h;rfl
 xn:=fun d m h=>by
  cases d with
  | mk sz r=>exact nomatch h
  | map ag kd z kvs=>
   refine⟨rfl,rfl,?_⟩;have h:(if kvs.all (fun p=>Nat.beq p.1.kind kd)then _ else none)=some m:=h;split at h
   ·rename_i hk;injection h with h
    subst h;refine⟨fun p hp=>Qa (Rf.1 hk p hp),fun _ _=>rfl,fun _ _=>rfl,fun k vs hkk _=> ?_,rfl⟩;refine⟨_,mV (Xu hkk kvs hk),rfl,rfl⟩
   ·cases h
 avK:=fun t d h=>by
  simp only[Dh]at h;split at h
  ·injection h with h;subst h;exact⟨_,rfl,rfl⟩
  ·cases h
 aFV:=fun i d h=>by
  simp only[Dh]at h;split at h
  ·injection h with h;subst h;rfl
  ·cases h
 make:=fun e n cs d h=>by
  simp only[Dh]at h;split at h
  ·rename_i k hk;split at h
   ·rename_i r hr;injection h with h
    subst h;obtain⟨h1,h2,h3⟩:=aef (ks:=ks) (gl:=gl) (mk:=mk) hr;exact⟨h1,h2,fun i j hi hj=>h3 i j hi hj⟩
   ·cases h
  ·cases h
 data:=fun d i j hi hj=>by
  simp only[Dh,CB];split
  ·split
   ·exact UC.data _
   ·rfl
  ·rfl
 zero:=fun e n zs d h=>by
  simp only[Dh]at h;split at h
  ·rename_i k hk;split at h
   ·rename_i r hr;injection h with h
    subst h;obtain⟨h1,h2,h3⟩:=Jq (ks:=ks) (gl:=gl) (mk:=mk) hr;refine⟨by simp[Dh,rP],h2,fun i j hi hj=> ?_⟩;have hj:j < k.length:=hj;obtain⟨c,h4,h5⟩:=h3 j _ (Ph (show j < zs.length by omega));refine⟨zs[j],Ph au,?_⟩;simp only[Dh,CB,rP];rw[List.getElem?_replicate,mV hi];simp only[h4];exact h5
   ·cases h
  ·cases h
 set:=fun d i j xs d' h hi=>by
  simp only[Dh]at h hi;unfold aCL at h;split at h
  ·cases h
  ·rename_i cs hcs;split at h
   ·rename_i hc;simp only[iT]at hc;have c1:=U5 hc.1;have c2:=Qa hc.2;split at h
    ·rename_i ys hys;injection h with h
     subst h;obtain⟨h1,h2,h3⟩:=Jq (ks:=ks) (gl:=gl) (mk:=mk) hys;have hyx:ys.length=xs.length:=by omega
     refine⟨rfl,by simp[Dh,rP],fun i' j' hi' hj'=>⟨fun⟨e,g1,g2⟩=> ?_,fun hne=> ?_⟩⟩
     ·subst e;obtain⟨c,h4,h5⟩:=h3 (j' - j) _ (Ph (show j' - j < xs.length by omega));refine⟨xs[j' - j]' au,Ph au,?_⟩;simp only[Dh,CB,rP];rw[List.getElem?_set_self (show i' < d.rows.length from hi')];have:(cs.take j++(ys++cs.drop (j+ys.length)))[j']? =some c:=by
       rw[Qay qbi,zC,Qcg au,Qa6 au];exact h4
      simp only[this];exact h5
     ·simp only[Dh,CB,rP];by_cases e:i'=i
      ·subst e;rw[List.getElem?_set_self (show i' < d.rows.length from hi'),hcs];dsimp only;have:(cs.take j++(ys++cs.drop (j+ys.length)))[j']? =cs[j']? :=by
        by_cases hlt:j' < j
        ·rw[Qa6 qbi,Qdk hlt]
        ·have hge:j+xs.length<=j':=by
          rcases Qd6 j' (j+xs.length)with q | q
          ·exact absurd ⟨rfl,by omega,q⟩ hne
          ·exact q
         rw[Qay qbi,zC,Qcg au,Qay au,Qbj];congr 1;omega
       rw[this]
      ·rw[List.getElem?_set_ne au]
    ·cases h
   ·cases h
 cat:=fun d1 d2 d h=>by
  simp only[Dh]at h;split at h
  ·rename_i hs;have hs:=Qa hs;injection h with h
   subst h;refine⟨rfl,hs.symm,by simp[Dh,rP],fun i j hi=> ?_,fun i j hi=> ?_⟩
   ·simp only[Dh,CB,rP];rw[Qa6 (show i < d1.rows.length from hi)]
   ·simp only[Dh,CB,rP];rw[Qay au];congr 2;omega
  ·cases h
 sub:=fun d i j d' h hij hj=>by
  cases d with
  | map ag kd z kvs=>exact nomatch h
  | mk sz rows=>
  simp only[Dh]at h hj;injection h with h
  subst h;have hj:j<=rows.length:=hj;refine⟨rfl,?_,fun k c hk=> ?_⟩
  ·show((rows.take j).drop i).length=j - i
   rw[Qbe,zC,Qcg hj]
  ·simp only[Dh,CB,rP];rw[Qbj,Qdk au]
 text:=fun e s d h=>by
  simp only[Dh]at h;injection h with h
  subst h;refine⟨rfl,by simp[Dh,rP],fun i hi=> ?_⟩;simp only[Dh,CB,rP];rw[Qbf,Ph hi];simp[UC.lf,List.getD,hi]
end
end Go.Vc
namespace Go.Vc
open Go.RowKit
def tyU (P:Program)(t:TypeId):Option Ty:=
 match anx P t with
 | some a=>if a.lit then none else some {a with lit:=true}
 | none=>none
theorem aEn {P:Program}:∀t a,tyU P t=some a->fB P t a:=fun t a h=>by
 unfold tyU at h;split at h
 ·rename_i c d;split at h
  ·cases h
  ·rename_i b;injection h with h
   subst h;unfold fB;rw[d];cases c;simp at b;simp[b]
 ·cases h
def agm (P:Program):Nat->TypeId->List Nat
 | 0,_=>[]
 | k+1,t=>match P.underlying t with
  | some (.struct a)=>a.toList.flatMap fun f=>agm P k f.type
  | some (.array n e)=>(List.range n).flatMap fun _=>agm P k e
  | some (.slice e)=>(match P.info? e with
   | some i=>[i.size]
   | none=>[0])
  | _=>[0]
def ksU (P:Program)(e:TypeId):Option (List Nat):=some (agm P 30 e)
def pvV:Value->Option Pv
 | .bool b=>some (.bool b)
 | .int k n=>some (.int k n)
 | .string s=>some (.str s.data.toList)
 | _=>none
def aIf:List Value->Option (List Pv)
 | []=>some []
 | v::a=>(match pvV v,aIf a with
  | some p,some b=>some (p::b)
  | _,_=>none)
def mkU (P:Program)(t:TypeId):Option (Bool×Nat×List Pv):=
 match P.underlying t with
 | some (.map k v)=>(match anx P k,anx P v with
  | some b,some a=>(match aIf a.zero with
   | some z=>some (a.zag,b.kind,z)
   | none=>none)
  | _,_=>none)
 | _=>none
end Go.Vc
namespace Go.Vc
open Go.RowKit
section
variable {D:Type}{P:Program}{S:Sh D}
def yR (g:List (Sl D)->Option (Sl D)):Ct D:=fun args a=>
 match a,g args with
 | [],some r=>some (none,r,[],[])
 | _,_=>none
theorem akh:rC (D:=D) [] [] []=jT []:=by
 funext i;simp[rC,jT,jM,qK]
theorem YB {f:FuncId}{g:List (Sl D)->Option (Sl D)}(j:∀(args:Array Value) (w:World),(callFunc f args).run P w= .ok (.enter f args) w)
  (h:∀(M:Nat->Prop) (w:World) (c:Nat->Option Value) (args:List (Sl D)) (b:List Value) (r:Sl D),g args=some r->g_ S M w c args b->∃v,(Calls P f b.toArray w fun e i=>e= .returned v/\i=w)/\r.Rel S M w c v):dJ P S f (yR g):=by
 refine⟨j,fun X N c w args y B p r s x o d a k=> ?_⟩;unfold yR at a;split at a
 ·rename_i A l;injection a with a
  injection a with z a
  injection a with q a
  injection a with u n
  subst q u n;obtain⟨v,t,m⟩:=h _ _ _ _ _ _ l d;refine t.mono ?_;rintro e i ⟨rfl,rfl⟩;refine⟨v,c,rfl,fun _ _ h=>h,?_,?_⟩
  ·rw[akh];exact o.weaken fun _ _=>trivial
  ·rw[akh];exact m
 ·cases a
def IQ (c:TypeId):Ct D:=fun args a=>
 match args,a with
 | [.one (.lf (.ptr 0 0))], .tc t [b]::r=>if Nat.beq t c then some (none, .sO [],[(0, .tc t [b])],(List.range (r.length+1)).filter fun i=> !Nat.beq i 0)else none
 | _,_=>none
theorem Vg {d b:Bk D}{r:List (Bk D)}:rC [(0,b)] ((List.range (r.length+1)).filter fun i=> !Nat.beq i 0) (d::r)=upd (jT (d::r)) 0 (some b):=by
 funext i;simp only[rC,jM,jT];by_cases a:i=0
 ·subst a;simp[upd_same]
 ·have h:¬(Nat.beq 0 i=true):=fun e=>a (Qa e).symm
  rw[lW h,bM _ _ _ _ a];dsimp only;by_cases c:i < r.length+1
  ·have f:(!Nat.beq i 0)=true:=by
    cases e:Nat.beq i 0 with
    | true=>exact absurd (Qa e) a
    | false=>rfl
   rw[mV (gz.2 (Qb1.2 ⟨Qcl.2 c,f⟩))];rfl
  ·rw[lW (fun g=>c (Qcl.1 (Qb1.1 (gz.1 g)).1))];exact(Qbw (by simpa using c)).symm
theorem agU {f:FuncId}{A:TypeId}(D:∀(args:Array Value) (w:World),(callFunc f args).run P w= .ok (.enter f args) w)
  (M:∀(b:Nat) (w:World),w.cell? ⟨b,0,none⟩=some (.pointer (some ⟨b,0,none⟩))->Calls P f #[.pointer (some ⟨b,0,none⟩)] w fun e w'=>e= .returned (.tuple #[])/\w'=w)
  (L:∀(b:Nat) (w:World),w.cell? ⟨b,0,none⟩=some (.pointer none)->w.shape? b=some (A,2)->w.frozen? ⟨b,0,none⟩=false->Calls P f #[.pointer (some ⟨b,0,none⟩)] w fun e w'=>e= .returned (.tuple #[])/\w'=w.setCell ⟨b,0,none⟩ (.pointer (some ⟨b,0,none⟩))):
  dJ P S f (IQ A):=by
 refine⟨D,fun X N B w args W Z p r Q V s g c R=> ?_⟩;unfold IQ at c;split at c
 ·rename_i t q U;obtain⟨v,z,b,G,rfl,F,⟨u0,i,C⟩,k⟩:=s.dn 0 (.tc t [q]) rfl;have m:args=[.pointer (some ⟨b,0,none⟩)]:=by
   match args,g with
   | [a],g=>
    obtain⟨T,d,H⟩:=g.1;rw[z]at d;injection d with d
    injection d with d
    injection d with d
    injection d with d
    subst d;rw[H]
  subst m;match G,k,i with
  | [E],k,i=>
  have o:w.cell? ⟨b,0,none⟩=some u0:=by rw[cell_of i];rfl
  split at c
  ·rename_i j;have j:=Qa j;subst j;injection c with c
   injection c with Y c
   injection c with O c
   injection c with J K
   subst O J K;rcases C with rfl | rfl
   ·refine(L b w o (by simp[World.shape?,i]) (by simp[World.frozen?,i])).mono ?_;rintro e w' ⟨rfl,rfl⟩;refine⟨_,B,rfl,fun _ _ h=>h,?_,[],rfl,trivial⟩;rw[Vg];have x:∀n,n≠b->(w.setCell ⟨b,0,none⟩ (.pointer (some ⟨b,0,none⟩))).heap[n]? =w.heap[n]? :=fun n I=>by
     simp only[World.setCell];rw[Qcc,lW (Ne.symm I)]
    obtain⟨y,_⟩:=s.write (w':=w.setCell ⟨b,0,none⟩ (.pointer (some ⟨b,0,none⟩))) (bk':= .tc t [q]) (l:=0) (b:=b) rfl rfl rfl z rfl rfl rfl rfl (by simp[World.setCell]) x
     (fun u=>⟨b,[E],rfl,F,⟨.pointer (some ⟨b,0,none⟩),by simp[World.setCell,Qcc,i], .inr rfl⟩,k.1.keep u (More.refl _),trivial⟩)
    exact y.weaken fun _ _=>trivial
   ·refine(M b w o).mono ?_;rintro e w' ⟨rfl,rfl⟩;refine⟨_,B,rfl,fun _ _ h=>h,?_,[],rfl,trivial⟩;rw[Vg];obtain⟨y,_⟩:=s.write (w':=w') (bk':= .tc t [q]) (l:=0) (b:=b) rfl rfl rfl z rfl rfl rfl rfl rfl (fun _ _=>rfl)
     (fun u=>⟨b,[E],rfl,F,⟨_,i, .inr rfl⟩,k.1.keep u (More.refl _),trivial⟩)
    exact y.weaken fun _ _=>trivial
  ·cases c
 ·cases c
end
def cU (a:Nat):ji U (List (List UC)):=⟨1,fun r=>[.dat (.mk a r)],fun b=>match b with
 | [.dat (.mk s r)]=>if Nat.beq s a then some r else none
 | [.val (.slice none 0 0)]=>some []
 | _=>none⟩
instance aI1 {ks:TypeId->Option (List Nat)} {gl:Nat->Option U} {mk:TypeId->Option (Bool×Nat×List Pv)} {sz:Nat}:dm (Dh ks gl mk) (cU sz) where
 ok:=fun xs a h=>by
  simp only[cU]at h;split at h
  ·rename_i s r;split at h
   ·rename_i hs;injection h with h
    subst h;rw[Qa hs];exact⟨.inl rfl,rfl,trivial⟩
   ·cases h
  ·injection h with h
   subst h;exact⟨.inr (.inl ⟨rfl,_,rfl,rfl,rfl⟩),rfl,trivial⟩
  ·cases h
 len:=fun a=>rfl
 data:=fun a x hx=>by simp[cU]at hx;subst hx;rfl
def cV (a:Nat):ji U (List (List UC)):=⟨1,fun r=>[.dat (.mk a r)],fun b=>match b with
 | [.dat (.mk s r)]=>if Nat.beq s a then some r else none
 | _=>none⟩
instance aKA {ks:TypeId->Option (List Nat)} {gl:Nat->Option U} {mk:TypeId->Option (Bool×Nat×List Pv)} {sz:Nat}:dm (Dh ks gl mk) (cV sz) where
 ok:=fun xs a h=>by
  simp only[cV]at h;split at h
  ·rename_i s r;split at h
   ·rename_i hs;injection h with h
    subst h;rw[Qa hs];exact⟨.inl rfl,rfl,trivial⟩
   ·cases h
  ·cases h
 len:=fun a=>rfl
 data:=fun a x hx=>by simp[cV]at hx;subst hx;rfl
section
variable {D:Type}{P:Program}{S:Sh D}
def ao1 (b:qQ D)(g:CQ D)(k:Nat)(c:List Nat)(h:b.A->Bool)(f:b.A->g.X):Ct D:=fun args e=>
 match b.dec args e with
 | none=>none
 | some a=>if h a then(match mi b g k c (fun _=>none) f args e with
  | some (_,r,d,i)=>some (none,r,d,i)
  | none=>none)else none
theorem ao2 {f:FuncId}{e:qQ D}{i:CQ D}{k:Nat}{d:List Nat}{j:e.A->Bool}{l:e.A->i.X}(h:dJ P S f (mi e i k d (fun a=>some (j a=true)) l)):dJ P S f (ao1 e i k d j l):=by
 refine⟨h.enters,fun X N u w args n q p r E G B m b s=> ?_⟩;unfold ao1 at b;split at b
 ·cases b
 rename_i a t;split at b
 ·rename_i v;split at b
  ·rename_i H A g o c;injection b with b
   injection b with z b
   injection b with C b
   injection b with F y
   subst z C F y;refine h.calls X N u w args n q (some (dq (j a=true))) A g o B m ?_ v;unfold mi at c⊢;rw[t]at c⊢;dsimp only at c⊢;injection c with c
   injection c with _ c
   rw[c];rfl
  ·cases c:mi e i k d (fun _=>none) l n q with
   | none=>cases b
   | some x=>cases b
 ·cases b
end
def t0 (P:Program)(t:TypeId):Option Ty:=
 match anx P t with
 | some a=>if a.lit then none else some a
 | none=>none
theorem aAh {P:Program}:∀t a,t0 P t=some a->fB P t a:=fun t a h=>by
 unfold t0 at h;split at h
 ·rename_i c d;split at h
  ·cases h
  ·rename_i b;injection h with h
   subst h;unfold fB;rw[d];cases c;simp at b;simp[b]
 ·cases h
def abu (a:Nat):qQ U:=args (a1 (bz (cV a)))
def ZQ (a:Nat)(e:TypeId):CQ U:=shr [.slot 0 false [some e]] (l1 (cU a))
def QJ (bytes:Nat)(r:List (List UC)):Pg (List (List UC)):= .unk false (fun b=>b=true->r.length=0) (.ret []) (.obD (dE (0+r.length) bytes) inferInstance (.ret r))
theorem as2 {bytes:Nat}{r:List (List UC)}(h:dE (0+r.length) bytes):Is (QJ bytes r)/\(QJ bytes r).val=r:=
 ⟨aqj ⟨false,fun e=>by cases e⟩ (fun b=>⟨fun _ _ _=>rfl,by have c:=b rfl;cases r with | nil=>rfl | cons a l=>simp at c⟩) (fun _=>⟨fun R' f e=>by simp only[Pg.runK,rJ h];rfl,rfl⟩),rfl⟩
def pM (a bytes:Nat)(e:TypeId):Ct U:=ao1 (abu a) (ZQ a e) 1 [] (fun r=>decide (dE (0+r.length) bytes)) (fun r=>r)
theorem uf {P:Program}{j:TypeId->Option (List Nat)}{k:Nat->Option U}{g:TypeId->Option (Bool×Nat×List Pv)}(d:P.follows .mixedOrders=true){f:FuncId}{a:Func}{n b bytes:Nat}{e:TypeId}(l:P.funcs[f]? =some a)(m:a.ntmps=n)(q:1<=n)(p:uB a=true)(o:a.results.toList.length=1)
  (i:∀r c,(QJ bytes r).run c=(wV ⟨P,Dh j k g,t0 P,d,aAh,Ba⟩ (fun _=>none) (fun _=>none) (abu b) (ZQ b e) 0 [] a n r).run c):dJ P (Dh j k g) f (pM b bytes e):=by
 refine ao2 ?_;exact afo (Z:=⟨P,Dh j k g,t0 P,d,aAh,Ba⟩) (Γ:=fun _=>none) (fun _ _ h=>by cases h) (J:=[]) (AS:=abu b) (RS:=ZQ b e) (fQ:=0) (n:=n) (keep:=[]) (jr (n:=n) (Nat.ble_eq_true_of_le q)) (atW (aAi aI1)) l m p 1 o (QJ bytes) (fun r=>some (decide (dE (0+r.length) bytes)=true)) (fun r c _=>i r c) (fun r=>r) fun r s=>as2 (Fa s)
end Go.Vc
namespace Go.Vc
open Go.RowKit
def OI:List UInt8->List UInt8->Bool
 | [],[]=>true
 | a::r,b::c=>Nat.beq a.toNat b.toNat && OI r c
 | _,_=>false
theorem Aa:∀{a b:List UInt8},OI a b=true->a=b
 | [],[],_=>rfl
 | a::r,b::c,h=>by
  simp only[OI,iT]at h;rw[Qd3.1 (Qa h.1),Aa h.2]
 | [],_::_,h=>by cases h
 | _::_,[],h=>by cases h
def ikN:IntKind->Nat
 | .i8=>0 | .i16=>1 | .i32=>2 | .i64=>3 | .u8=>4 | .u16=>5 | .u32=>6 | .u64=>7
theorem Za {a b:IntKind}(h:Nat.beq (ikN a) (ikN b)=true):a=b:=by
 cases a<;>cases b<;>first | rfl | cases h
def aeB:Int->Int->Bool
 | .ofNat a, .ofNat b=>Nat.beq a b
 | .negSucc a, .negSucc b=>Nat.beq a b
 | _,_=>false
theorem IV {a b:Int}(h:aeB a b=true):a=b:=by
 cases a<;>cases b<;>first | cases h | rw[Qa h]
def uP:Bool->Bool->Bool
 | true,true=>true
 | false,false=>true
 | _,_=>false
theorem nI {a b:Bool}(h:uP a b=true):a=b:=by cases a<;>cases b<;>first | rfl | cases h
def amX:Pv->Pv->Bool
 | .bool a, .bool b=>uP a b
 | .int k n, .int c d=>Nat.beq (ikN k) (ikN c) && aeB n d
 | .str s, .str e=>OI s e
 | _,_=>false
theorem PQ {a b:Pv}(h:amX a b=true):a=b:=by
 cases a<;>cases b<;>first | cases h | skip
 ·rw[nI h]
 ·simp only[amX,iT]at h;rw[Za h.1,IV h.2]
 ·rw[Aa h]
def sZ {A:Type}(f:A->A->Bool):List A->List A->Bool
 | [],[]=>true
 | a::r,b::c=>f a b && sZ f r c
 | _,_=>false
theorem kN {A:Type}{f:A->A->Bool}(c:∀{a b},f a b=true->a=b):∀{a b:List A},sZ f a b=true->a=b
 | [],[],_=>rfl
 | a::r,b::d,h=>by
  simp only[sZ,iT]at h;rw[c h.1,kN c h.2]
 | [],_::_,h=>by cases h
 | _::_,[],h=>by cases h
def alq:Option zF->Option zF->Bool
 | none,none=>true
 | some ⟨t,g,b⟩,some ⟨c,g',a⟩=>Nat.beq t c && (uP g g' && sZ amX b a)
 | _,_=>false
theorem acn {a b:Option zF}(h:alq a b=true):a=b:=by
 cases a with
 | none=>cases b with
  | none=>rfl
  | some y=>cases h
 | some x=>
  cases b with
  | none=>cases h
  | some y=>
   cases x;cases y;simp only[alq,iT]at h;rw[Qa h.1,nI h.2.1,kN PQ h.2.2]
def aBe:List (Pv×List Pv)->List (Pv×List Pv)->Bool:=sZ fun p q=>amX p.1 q.1 && sZ amX p.2 q.2
theorem arA {a b:List (Pv×List Pv)}(h:aBe a b=true):a=b:=kN (fun{p q} h=>by
 simp only[iT]at h;exact Prod.ext (PQ h.1) (kN PQ h.2)) h
mutual
def uBq:U->U->Bool
 | .mk s r, .mk d e=>Nat.beq s d && LH r e
 | .map a k z l, .map g c f b=>uP a g && (Nat.beq k c && (sZ amX z f && aBe l b))
 | _,_=>false
 termination_by structural a=>a
def LH:List (List UC)->List (List UC)->Bool
 | [],[]=>true
 | a::r,b::c=>EC a b && LH r c
 | _,_=>false
 termination_by structural a=>a
def EC:List UC->List UC->Bool
 | [],[]=>true
 | a::r,b::c=>agE a b && EC r c
 | _,_=>false
 termination_by structural a=>a
def agE:UC->UC->Bool
 | .bool a, .bool b=>uP a b
 | .int k n, .int c e=>Nat.beq (ikN k) (ikN c) && aeB n e
 | .str s, .str f=>OI s f
 | .dat u, .dat d=>uBq u d
 | .O_ v, .O_ g=>alq v g
 | _,_=>false
 termination_by structural a=>a
end
mutual
theorem Ej:∀{a b:U},uBq a b=true->a=b
 | .mk s r, .mk e f,h=>by
  simp only[uBq,iT]at h;rw[Qa h.1,YJ h.2]
 | .map a k z l, .map i d g c,h=>by
  simp only[uBq,iT]at h;rw[nI h.1,Qa h.2.1,kN PQ h.2.2.1,arA h.2.2.2]
 | .mk _ _, .map _ _ _ _,h=>by simp[uBq]at h
 | .map _ _ _ _, .mk _ _,h=>by simp[uBq]at h
theorem YJ:∀{a b:List (List UC)},LH a b=true->a=b
 | [],[],_=>rfl
 | a::r,b::c,h=>by
  simp only[LH,iT]at h;rw[VQ h.1,YJ h.2]
 | [],_::_,h=>by simp[LH]at h
 | _::_,[],h=>by simp[LH]at h
theorem VQ:∀{a b:List UC},EC a b=true->a=b
 | [],[],_=>rfl
 | a::r,b::c,h=>by
  simp only[EC,iT]at h;rw[ayA h.1,VQ h.2]
 | [],_::_,h=>by simp[EC]at h
 | _::_,[],h=>by simp[EC]at h
theorem ayA:∀{a b:UC},agE a b=true->a=b
 | .bool a,b,h=>by
  cases b<;>simp only[agE]at h<;>first | rw[nI h] | cases h
 | .int k n,b,h=>by
  cases b<;>simp only[agE,iT]at h<;>first | rw[Za h.1,IV h.2] | cases h
 | .str s,b,h=>by
  cases b<;>simp only[agE]at h<;>first | rw[Aa h] | cases h
 | .dat u,b,h=>by
  cases b<;>simp only[agE]at h<;>first | rw[Ej h] | cases h
 | .O_ v,b,h=>by
  cases b<;>simp only[agE]at h<;>first | rw[acn h] | cases h
end
def ayZ:Dl U->Dl U->Bool
 | .bool a, .bool b=>uP a b
 | .int k n, .int c e=>Nat.beq (ikN k) (ikN c) && aeB n e
 | .str s, .str f=>OI s f
 | .dat u, .dat d=>uBq u d
 | .avL, .avL=>true
 | _,_=>false
theorem aj2 {a b:Dl U}(h:ayZ a b=true):a=b:=by
 cases a<;>cases b<;>first | cases h | skip
 ·rw[nI h]
 ·simp only[ayZ,iT]at h;rw[Za h.1,IV h.2]
 ·rw[Aa h]
 ·rw[Ej h]
 ·rfl
def aq1:Xt U->Xt U->Bool
 | .ifd t g c, .ifd b g' a=>Nat.beq t b && (uP g g' && sZ ayZ c a)
 | .clo t g c, .clo b g' a=>Nat.beq t b && (uP g g' && sZ ayZ c a)
 | .clip d, .clip e=>uBq d e
 | _,_=>false
theorem axG {a b:Xt U}(h:aq1 a b=true):a=b:=by
 cases a<;>cases b<;>first | cases h | skip
 ·simp only[aq1,iT]at h;rw[Qa h.1,nI h.2.1,kN aj2 h.2.2]
 ·simp only[aq1,iT]at h;rw[Qa h.1,nI h.2.1,kN aj2 h.2.2]
 ·simp only[aq1]at h;rw[Ej h]
def auw:Value->Value->Bool
 | .bool a, .bool b=>uP a b
 | .pointer none, .pointer none=>true
 | .slice none n m, .slice none d c=>Nat.beq n d && Nat.beq m c
 | .map none, .map none=>true
 | .nilFunc, .nilFunc=>true
 | .nilIface, .nilIface=>true
 | _,_=>false
theorem atH {a b:Value}(h:auw a b=true):a=b:=by
 unfold auw at h;split at h
 ·rw[nI h]
 ·rfl
 ·rw[iT]at h;rw[Qa h.1,Qa h.2]
 ·rfl
 ·rfl
 ·rfl
 ·cases h
def ap2 (a b:Nat):Bool:=Nat.beq a b
theorem aco {a b:Nat}(h:ap2 a b=true):a=b:=Qa h
def anq:Lf U->Lf U->Bool
 | .val a, .val b=>auw a b
 | .bool a, .bool b=>uP a b
 | .int k n, .int m q=>Nat.beq (ikN k) (ikN m) && aeB n q
 | .str s, .str x=>OI s x
 | .ptr l o, .ptr d o'=>Nat.beq l d && Nat.beq o o'
 | .dat u, .dat p=>uBq u p
 | .elt u i j, .elt p g h=>Nat.beq i g && (Nat.beq j h && uBq u p)
 | .fn f c, .fn r y=>Nat.beq f r && sZ ap2 c y
 | .own l, .own d=>Nat.beq l d
 | .opt l i j k, .opt d g h m=>Nat.beq l d && (Nat.beq i g && (Nat.beq j h && Nat.beq k m))
 | .glb i, .glb g=>Nat.beq i g
 | .O_ v, .O_ t=>alq v t
 | .xt e, .xt w=>aq1 e w
 | _,_=>false
theorem QP {a b:Lf U}(h:anq a b=true):a=b:=by
 unfold anq at h;split at h
 ·rw[atH h]
 ·rw[nI h]
 ·rw[iT]at h;rw[Za h.1,IV h.2]
 ·rw[Aa h]
 ·rw[iT]at h;rw[Qa h.1,Qa h.2]
 ·rw[Ej h]
 ·simp only[iT]at h;rw[Qa h.1,Qa h.2.1,Ej h.2.2]
 ·rw[iT]at h;rw[Qa h.1,kN aco h.2]
 ·rw[Qa h]
 ·simp only[iT]at h;rw[Qa h.1,Qa h.2.1,Qa h.2.2.1,Qa h.2.2.2]
 ·rw[Qa h]
 ·rw[acn h]
 ·rw[axG h]
 ·cases h
def aDo:Sv U->Sv U->Bool
 | .lf x, .lf y=>anq x y
 | .agg a, .agg b=>sZ anq a b
 | _,_=>false
theorem ajU {a b:Sv U}(h:aDo a b=true):a=b:=by
 cases a<;>cases b<;>first | cases h | skip
 ·rw[QP h]
 ·rw[kN QP h]
def aCk:Sl U->Sl U->Bool
 | .one x, .one y=>aDo x y
 | .sO a, .sO b=>sZ aDo a b
 | _,_=>false
theorem ajb {a b:Sl U}(h:aCk a b=true):a=b:=by
 cases a<;>cases b<;>first | cases h | skip
 ·rw[ajU h]
 ·rw[kN ajU h]
def amV:Bk U->Bk U->Bool
 | .cells f, .cells g=>sZ anq f g
 | .row e d, .row k c=>Nat.beq e k && uBq d c
 | .uZ d, .uZ c=>uBq d c
 | .iter s n, .iter i j=>Nat.beq n j && OI s i
 | .map a, .map b=>uBq a b
 | .tc t f, .tc h g=>Nat.beq t h && sZ anq f g
 | _,_=>false
theorem ai5 {a b:Bk U}(h:amV a b=true):a=b:=by
 cases a<;>cases b<;>first | cases h | skip
 ·rw[kN QP h]
 ·simp only[amV,iT]at h;rw[Qa h.1,Ej h.2]
 ·rw[Ej h]
 ·simp only[amV,iT]at h;rw[Qa h.1,Aa h.2]
 ·rw[Ej h]
 ·simp only[amV,iT]at h;rw[Qa h.1,kN QP h.2]
abbrev Res:=Sl U×List (Nat×Bk U)×List Nat
def aCl:Nat×Bk U->Nat×Bk U->Bool
 | (n,b),(c,a)=>Nat.beq n c && amV b a
theorem awO {a b:Nat×Bk U}(h:aCl a b=true):a=b:=by
 cases a;cases b;simp only[aCl,iT]at h;rw[Qa h.1,ai5 h.2]
def qJ (h:Ct U)(args:List (Sl U))(f:List (Bk U))(e:Res):Bool:=
 match h args f with
 | some (none,r,d,c)=>(match e with
  | (g,a,b)=>aCk r g && (sZ aCl d a && sZ ap2 c b))
 | _=>false
theorem SQ {c:Ct U}{args:List (Sl U)}{b:List (Bk U)}{a:Res}(h:qJ c args b a=true):c args b=some (none,a):=by
 unfold qJ at h;split at h
 ·rename_i r g f i;obtain⟨j,d,e⟩:=a;simp only[iT]at h;rw[i,ajb h.1,kN awO h.2.1,kN aco h.2.2]
 ·cases h
def abp (b:List (Sl U))(a:List (Bk U))(c:Res):Ct U:=fun args d=>
 match sZ aCk args b && sZ amV d a with
 | true=>some (none,c)
 | false=>none
section
variable {P:Program}{S:Sh U}
theorem axY {f:FuncId}{l:Ct U}{d:List (Sl U)}{c:List (Bk U)}{b:Res}(h:dJ P S f l)(u:qJ l d c b=true):dJ P S f (abp d c b):=by
 refine⟨h.enters,fun X N g w args n s p r i m q j a k=> ?_⟩;unfold abp at a;split at a
 ·rename_i e;rw[iT]at e;have o:=kN ajb e.1;have t:=kN ai5 e.2;subst o t;refine h.calls X N g w args n s p r i m q j ?_ k;rw[SQ u];exact a
 ·cases a
end
section
variable {D:Type}{P:Program}{S:Sh D}
def ZZ:List (Nat×Ct D)->FuncId->Option (Ct D)
 | [],_=>none
 | (n,c)::r,f=>(match Nat.beq n f with
  | true=>(match ZZ r f with
   | some a=>some (aoq c a)
   | none=>some c)
  | false=>ZZ r f)
theorem ZN:∀{l:List (Nat×Ct D)} (h:∀p∈l,dJ P S p.1 p.2) (f:FuncId) (a:Ct D),ZZ l f=some a->dJ P S f a
 | [],_,f,a,h=>by cases h
 | (n,c)::r,e,f,a,h=>by
  unfold ZZ at h;split at h
  ·rename_i b;have b:=Qa b;subst b;have i:=e (n,c) oI;split at h
   ·rename_i j g;injection h with h
    subst h;exact Zl i (ZN (fun p d=>e p (by simp[d])) _ _ g)
   ·injection h with h
    subst h;exact i
  ·exact ZN (fun p d=>e p (by simp[d])) f a h
end
def ww {D:Type}(args:List (Sl D)):Option (Sl D):=match args with
 | [.one (.lf (.str s)), .one (.lf (.int .u8 c))]=>some (.one (.lf (.int .i64 (Lib.indexByte s c.toNat.toUInt8))))
 | _=>none
def Ry {D:Type}(args:List (Sl D)):Option (Sl D):=match args with
 | [.one (.lf (.str s)), .one (.lf (.str [c]))]=>some (.one (.lf (.int .i64 (Lib.countByte s c))))
 | _=>none
def Qr (P:Program)(a:Nat->Option U):Sh U:=Dh (ksU P) a (mkU P)
noncomputable def amH (P:Program)(b:Nat->Option U)(a:List (Nat×Ct U))(m k f:Nat):Ct U:=
 match WN P (tyU P) (Qr P b) (ZZ a) m k f with
 | some c=>c
 | none=>fun _ _=>none
noncomputable def goU (P:Program)(a:List (Nat×Ct U))(k f:Nat):Ct U:=amH P (fun _=>none) a 100 k f
theorem ai1 {P:Program}{b:Nat->Option U}{a:List (Nat×Ct U)}{m k f:Nat}(e:P.follows .mixedOrders=true)(i:iL (Qr P b))(d:∀p∈a,dJ P (Qr P b) p.1 p.2)(g:(WN P (tyU P) (Qr P b) (ZZ a) m k f).isSome=true):dJ P (Qr P b) f (amH P b a m k f):=by
 unfold amH;cases h:WN P (tyU P) (Qr P b) (ZZ a) m k f with
 | none=>rw[h]at g;cases g
 | some c=>exact aiJ e aEn i (ZN d) k f c h
theorem Gh {P:Program}{e:Nat->Option U}{d:List (Nat×Ct U)}{m k f:Nat}{a:List (Sl U)}{b:List (Bk U)}{r:Res}(h:qJ (amH P e d m k f) a b r=true):(WN P (tyU P) (Qr P e) (ZZ d) m k f).isSome=true:=by
 unfold amH at h;cases g:WN P (tyU P) (Qr P e) (ZZ d) m k f with
 | some c=>rfl
 | none=>rw[g]at h;cases h
theorem EX {P:Program}{e:Nat->Option U}{d:List (Nat×Ct U)}{m k f:Nat}{a:List (Sl U)}{b:List (Bk U)}{r:Res}(i:P.follows .mixedOrders=true)(j:iL (Qr P e))(c:∀p∈d,dJ P (Qr P e) p.1 p.2)(h:qJ (amH P e d m k f) a b r=true):∀p∈((f,abp a b r)::d:List (Nat×Ct U)),dJ P (Qr P e) p.1 p.2:=by
 intro p g;rcases CW.1 g with rfl | g
 ·exact axY (ai1 i j c (Gh h)) h
 ·exact c p g
end Go.Vc
namespace Go.Vc
open Go.RowKit
def ctB (D:Type)(b:Bool):Ct D:=fun args a=>
 match args,a with
 | [],[]=>some (none, .one (.lf (.bool b)),[],[])
 | _,_=>none
def isB {D:Type}(b:Bool):Sl D->Bool
 | .one (.lf (.bool c))=>uP b c
 | .one (.lf (.val (.bool c)))=>uP b c
 | _=>false
theorem av1 {D:Type}{S:Sh D}{M:Nat->Prop}{w:World}{g:Nat->Option Value}{b:Bool}{r:Sl D}{v:Value}(h:isB b r=true)(a:r.Rel S M w g v):v= .bool b:=by
 unfold isB at h;split at h
 ·rw[nI h];exact a
 ·rw[nI h];exact a
 ·cases h
theorem aEY {D s:Type}{S:Sh D}{y:Sh s}{P:Program}{f:FuncId}{z:Ct s}{b:Bool}{r:Sl s}(A:y.KR=fun _=>none)(h:dJ P y f z)(K:z [] []=some (none,r,[],[]))(n:isB b r=true):dJ P S f (ctB D b):=by
 refine⟨h.enters,fun X N g w args lq dn p r' U Z q x c E=> ?_⟩;unfold ctB at c;split at c
 ·injection c with c
  injection c with O c
  injection c with T c
  injection c with W M
  subst O T W M;have F:args=[]:=by
   cases args with
   | nil=>rfl
   | cons a r=>cases x
  subst F;have t:∀l,jT ([]:List (Bk s)) l=none:=fun l=>by simp[jT]
  have C:Hp y ⟨w,fun _=>False⟩ N (jT []) g (· < ([]:List (Bk s)).length) w:=
   ⟨zx.refl _,fun b n=>⟨(q.hN b n).1,fun e=>e⟩,fun l Y m=>(by rw[t]at m;cases m),fun l J v I b m=>(by rw[t]at m;cases m),q.al,q.refs,fun i d B=>(by rw[A]at B;cases B)⟩
  refine(h.calls (fun _=>False) N g w [] [] [] none r [] [] C trivial K trivial).mono ?_;rintro e w' ⟨v,g',rfl,V,j,L⟩;have o:∀l,rC [] [] ([]:List (Bk D)) l=none:=fun l=>by simp[rC,jM,qK]
  have u:∀{l},hot (rC [] [] ([]:List (Bk D)) l)=true->False:=fun{l} e=>by rw[o]at e;cases e
  have H:∀b,aV N (rC [] [] ([]:List (Bk D))) g' b->N b:=fun b n=>by
   rcases n with n | ⟨l,_,m,_⟩
   ·exact n
   ·exact(u m).elim
  have R:zx ⟨w,X⟩ w':=⟨j.below.os,j.below.tape,j.below.output,j.below.size,fun k Q _=>j.below.block k Q (fun e=>e)⟩;refine⟨v,g',rfl,V,⟨R,q.hN,fun l Y m=>(by rw[o]at m;cases m),fun l J v I b m=>(u m).elim,fun _ _ _=>trivial,j.refs,q.gl.keep ⟨j.below.size,fun b n G=>⟨fun e=>G (.inl (H b e)),j.below.block b n (fun e=>e)⟩⟩⟩,?_⟩;rw[av1 n L];rfl
 ·cases c
section
variable {D:Type}{P:Program}{S:Sh D}
theorem enters_of {f:FuncId}{a:Func}(g:P.funcs[f]? =some a)(e:a.body.isSome=true)(b:(a.name== "runtime.NumGoroutine")=false)(args:Array Value)(w:World):(callFunc f args).run P w= .ok (.enter f args) w:=by
 obtain⟨c,d⟩:=Qbs.1 e;have b:¬a.name= "runtime.NumGoroutine" :=by simpa using b
 simp[callFunc,g,b,d]
theorem U9 {f:FuncId}(g:∀(args:Array Value) (w:World),(callFunc f args).run P w= .ok (.enter f args) w)
  (h:∀(s:ByteArray) (c:Int) (w:World),Calls P f #[.string s, .int .u8 c] w fun e i=>e= .returned (.int .i64 (Lib.indexByte s.data.toList c.toNat.toUInt8))/\i=w):dJ P S f (yR ww):=by
 refine YB g fun M w n args d r b a=> ?_;unfold ww at b;split at b
 ·rename_i s c;injection b with b
  subst b;match d,a with
  | [m,k],a=>
   obtain⟨⟨l,_⟩,j,_⟩:=a;rw[l,show k= .int .u8 c from j];exact⟨_,h _ _ _,rfl⟩
 ·cases b
theorem ahr {f:FuncId}(g:∀(args:Array Value) (w:World),(callFunc f args).run P w= .ok (.enter f args) w)
  (h:∀(s:ByteArray) (c:UInt8) (w:World),Calls P f #[.string s, .string ⟨#[c]⟩] w fun e i=>e= .returned (.int .i64 (Lib.countByte s.data.toList c))/\i=w):dJ P S f (yR Ry):=by
 refine YB g fun M w m args d r b a=> ?_;unfold Ry at b;split at b
 ·rename_i s c;injection b with b
  subst b;match d,a with
  | [l,n],a=>
   obtain⟨⟨k,_⟩,⟨j,_⟩,_⟩:=a;rw[k,j];exact⟨_,h _ _ _,rfl⟩
 ·cases b
end
end Go.Vc
namespace Go.Vc
open Go.RowKit
section
variable {D:Type}
def Tr.line:{R:Type}->Tr D R->Option (Prop×R)
 | _, .ret r=>some (True,r)
 | _, .ob p k=>(match k.line with
  | some (q,r)=>some (p.p/\q,r)
  | none=>none)
 | _, .as _ k=>k.line
 | _, .br b t e=>cond b t.line e.line
 | _, .stuck _=>none
 | _, .halt _ _=>none
 | _, .unk _ _ _=>none
 | _, .loop _ _ _=>none
 | _, .cut _ _ _=>none
theorem Tr.Es:∀{R:Type} (t:Tr D R) (q:Prop) (r:R),t.line=some (q,r)->q->t.run r=some r
 | _, .ret r,q,a,h,_=>by injection h with h;injection h with _ h;subst h;rfl
 | _, .ob p k,q,a,h,c=>by
  simp only[Tr.line]at h;split at h
  ·rename_i g d i;injection h with h
   injection h with l j
   subst l j;simp only[Tr.run];rw[rJ c.1];exact Tr.Es k g d i c.2
  ·cases h
 | _, .as p k,q,a,h,c=>by
  have:=Tr.Es k q a h c;simp only[Tr.run];by_cases f:p
  ·rw[vO f];exact this
  ·rw[yD f]
 | _, .br b t e,q,a,h,c=>by
  cases b with
  | true=>exact Tr.Es t q a h c
  | false=>exact Tr.Es e q a h c
 | _, .stuck _,q,a,h,_=>by cases h
 | _, .halt _ _,q,a,h,_=>by cases h
 | _, .unk _ _ _,q,a,h,_=>by cases h
 | _, .loop _ _ _,q,a,h,_=>by cases h
 | _, .cut _ _ _,q,a,h,_=>by cases h
def ctI (T:TypeId->Option Ty)(S:Sh D)(e:FuncId->Option (Ct D))(a:Func):Ct D:=fun args d=>
 if Nat.ble args.length a.ntmps then
  (match(H9 T S e a.ntmps (fun _=>none) (wC a) (ac6 D) (St.init args d) (ai_ T S a.results.toList d.length)).line with
  | none=>none
  | some (q,r,c,b)=>some (some (dq q),r,c,b))else none
end
section
variable {D:Type}{P:Program}{S:Sh D}{T:TypeId->Option Ty}{Γ:FuncId->Option (Ct D)}{N:Nat->Prop}{w w':World}{w0:Bs}{g0:Nat->Option Value}{n:Nat}{al:Nat->Prop}{g:Nat->Option Value}{blk:Nat->Option (Bk D)}{ids:List Nat}
theorem aFq {f:FuncId}{x:Func}(Z:P.follows .mixedOrders=true)(I:∀t ty,T t=some ty->fB P t ty)(Y:∀f ct,Γ f=some ct->dJ P S f ct)(hS:iL S)(hf:P.funcs[f]? =some x)(hc:uB x=true):dJ P S f (ctI T S Γ x):=by
 simp only[uB,iT,Qe,ne_eq]at hc;obtain⟨R,M,F⟩:=hc;obtain⟨c,A⟩:=Qbs.1 R;have hbf:wC x=c:=by simp[wC,A]
 refine⟨fun args w=>by simp[callFunc,hf,M,A],fun X N g w args lq o p r post kp Q U a L=> ?_⟩;unfold ctI at a;split at a
 ·rename_i y;have y:=U5 y;split at a
  ·cases a
  rename_i q O j k m;injection a with a
  injection a with q1 a
  injection a with q2 a
  injection a with q3 q4
  subst q1 q2 q3 q4;have m:=Tr.Es _ _ _ m L;rw[hbf]at m F;have z:∀l v,g l=some v->l < o.length:=Q.al;have V:∀(l:Nat) (E:Bk D),o[l]? =some E->∀r∈E.refs,r < o.length:=fun l E A r n=>by
   obtain⟨v,hv,H⟩:=Q.dn l E A;cases E with
   | cells cs=>
    obtain⟨b,vs,t,_,_,_,C⟩:=H;obtain⟨u,K⟩:=aZ.gY C r n;exact z r u K
   | row e d=>simp[Bk.refs]at n
   | uZ d=>simp[Bk.refs]at n
   | iter s p=>simp[Bk.refs]at n
   | map kvs=>simp[Bk.refs]at n
   | tc t cs=>
    obtain⟨b,vs,_,_,_,C⟩:=H;obtain⟨u,K⟩:=aZ.gY C r n;exact z r u K
  refine calls_of_wp hf A (IW (J:=fun _=>none) (fun _ _ h=>by cases h) Z I Y hS (w0:=⟨w,X⟩) (N:=N) c _ _ _ _ _ _ _ w F m (BN Q U y) fun e s' a' w' h' W _ B=> ?_);have G:(ZG T S x.results.toList o.length s').run (O,j,k)=some (O,j,k)->a'.defers=[]/\∃v,(results x a'.tmps).run P w'= .ok v w'/\∃v' g',Ending.returned v= .returned v'/\More g g'/\Hp S ⟨w,X⟩ N (rC j k o) g' (fun _=>True) w'/\
    O.Rel S (aV N (rC j k o) g') w' g' v':=by
   intro B;obtain⟨R,v,M,g',F,h4,h5⟩:=Hf I z V W h' B;exact⟨R,v,M,v,g',rfl,F,h4,h5⟩
  cases e with
  | normal=>exact G B
  | ret=>exact G B
  | exit i=>cases B
 ·cases a
def aIt (Z:Seat D)(l:List (aY Z))(f:FuncId){a:Func}(c:Z.P.funcs[f]? =some a)(b:uB a=true):aY Z:=
 ⟨f,ctI Z.T Z.S (CV l) a,aFq Z.mx Z.hT (fun _ _ h=>EH h) Z.hS c b⟩
end
section
variable {D:Type}
def Tr.road:List Bool->{R:Type}->Tr D R->Option (Prop×R)
 | _,_, .ret r=>some (True,r)
 | cs,_, .ob p k=>(match k.road cs with
  | some (q,r)=>some (p.p/\q,r)
  | none=>none)
 | cs,_, .as _ k=>k.road cs
 | c::cs,_, .br b t e=>(match c with
  | true=>(match t.road cs with
   | some (q,r)=>some (b=true/\q,r)
   | none=>none)
  | false=>(match e.road cs with
   | some (q,r)=>some (b=false/\q,r)
   | none=>none))
 | [],_, .br _ _ _=>none
 | _,_, .stuck _=>none
 | _,_, .halt _ _=>none
 | _,_, .unk _ _ _=>none
 | _,_, .loop _ _ _=>none
 | _,_, .cut _ _ _=>none
theorem Tr.Eu:∀(cs:List Bool) {R:Type} (t:Tr D R) (q:Prop) (r:R),t.road cs=some (q,r)->q->t.run r=some r
 | cs,_, .ret r,q,a,h,_=>by
  simp only[Tr.road]at h;injection h with h;injection h with _ h;subst h;rfl
 | cs,_, .ob p k,q,a,h,d=>by
  simp only[Tr.road]at h;split at h
  ·rename_i g f i;injection h with h
   injection h with l j
   subst l j;simp only[Tr.run];rw[rJ d.1];exact Tr.Eu cs k g f i d.2
  ·cases h
 | cs,_, .as p k,q,a,h,d=>by
  simp only[Tr.road]at h;have:=Tr.Eu cs k q a h d;simp only[Tr.run];by_cases m:p
  ·rw[vO m];exact this
  ·rw[yD m]
 | c::cs,_, .br b t e,q,a,h,d=>by
  simp only[Tr.road]at h;cases c with
  | true=>
   dsimp only at h;split at h
   ·rename_i g f i;injection h with h
    injection h with l j
    subst l j;simp only[Tr.run,d.1,AC];exact Tr.Eu cs t g f i d.2
   ·cases h
  | false=>
   dsimp only at h;split at h
   ·rename_i g f i;injection h with h
    injection h with l j
    subst l j;simp only[Tr.run,d.1,qH];exact Tr.Eu cs e g f i d.2
   ·cases h
 | [],_, .br _ _ _,q,a,h,_=>by simp[Tr.road]at h
 | cs,_, .stuck _,q,a,h,_=>by simp[Tr.road]at h
 | cs,_, .halt _ _,q,a,h,_=>by simp[Tr.road]at h
 | cs,_, .unk _ _ _,q,a,h,_=>by simp[Tr.road]at h
 | cs,_, .loop _ _ _,q,a,h,_=>by simp[Tr.road]at h
 | cs,_, .cut _ _ _,q,a,h,_=>by simp[Tr.road]at h
def aFp (T:TypeId->Option Ty)(S:Sh D)(e:FuncId->Option (Ct D))(a:Func)(cs:List Bool):Ct D:=fun args d=>
 if Nat.ble args.length a.ntmps then
  (match(H9 T S e a.ntmps (fun _=>none) (wC a) (ac6 D) (St.init args d) (ai_ T S a.results.toList d.length)).road cs with
  | none=>none
  | some (q,r,c,b)=>some (some (dq q),r,c,b))else none
end
section
variable {D:Type}{P:Program}{S:Sh D}{T:TypeId->Option Ty}{Γ:FuncId->Option (Ct D)}{N:Nat->Prop}{w w':World}{w0:Bs}{g0:Nat->Option Value}{n:Nat}{al:Nat->Prop}{g:Nat->Option Value}{blk:Nat->Option (Bk D)}{ids:List Nat}
theorem ax2 {f:FuncId}{x:Func}{cs:List Bool}(Z:P.follows .mixedOrders=true)(I:∀t ty,T t=some ty->fB P t ty)(Y:∀f ct,Γ f=some ct->dJ P S f ct)(hS:iL S)(hf:P.funcs[f]? =some x)(hc:uB x=true):dJ P S f (aFp T S Γ x cs):=by
 simp only[uB,iT,Qe,ne_eq]at hc;obtain⟨R,M,F⟩:=hc;obtain⟨c,A⟩:=Qbs.1 R;have hbf:wC x=c:=by simp[wC,A]
 refine⟨fun args w=>by simp[callFunc,hf,M,A],fun X N g w args lq o p r post kp Q U a L=> ?_⟩;unfold aFp at a;split at a
 ·rename_i y;have y:=U5 y;split at a
  ·cases a
  rename_i q O j k m;injection a with a
  injection a with q1 a
  injection a with q2 a
  injection a with q3 q4
  subst q1 q2 q3 q4;have m:=Tr.Eu cs _ _ _ m L;rw[hbf]at m F;have z:∀l v,g l=some v->l < o.length:=Q.al;have V:∀(l:Nat) (E:Bk D),o[l]? =some E->∀r∈E.refs,r < o.length:=fun l E A r n=>by
   obtain⟨v,hv,H⟩:=Q.dn l E A;cases E with
   | cells cs=>
    obtain⟨b,vs,t,_,_,_,C⟩:=H;obtain⟨u,K⟩:=aZ.gY C r n;exact z r u K
   | row e d=>simp[Bk.refs]at n
   | uZ d=>simp[Bk.refs]at n
   | iter s p=>simp[Bk.refs]at n
   | map kvs=>simp[Bk.refs]at n
   | tc t cs=>
    obtain⟨b,vs,_,_,_,C⟩:=H;obtain⟨u,K⟩:=aZ.gY C r n;exact z r u K
  refine calls_of_wp hf A (IW (J:=fun _=>none) (fun _ _ h=>by cases h) Z I Y hS (w0:=⟨w,X⟩) (N:=N) c _ _ _ _ _ _ _ w F m (BN Q U y) fun e s' a' w' h' W _ B=> ?_);have G:(ZG T S x.results.toList o.length s').run (O,j,k)=some (O,j,k)->a'.defers=[]/\∃v,(results x a'.tmps).run P w'= .ok v w'/\∃v' g',Ending.returned v= .returned v'/\More g g'/\Hp S ⟨w,X⟩ N (rC j k o) g' (fun _=>True) w'/\
    O.Rel S (aV N (rC j k o) g') w' g' v':=by
   intro B;obtain⟨R,v,M,g',F,h4,h5⟩:=Hf I z V W h' B;exact⟨R,v,M,v,g',rfl,F,h4,h5⟩
  cases e with
  | normal=>exact G B
  | ret=>exact G B
  | exit i=>cases B
 ·cases a
def Am (Z:Seat D)(l:List (aY Z))(f:FuncId){a:Func}(cs:List Bool)(c:Z.P.funcs[f]? =some a)(b:uB a=true):aY Z:=
 ⟨f,aFp Z.T Z.S (CV l) a cs,ax2 Z.mx Z.hT (fun _ _ h=>EH h) Z.hS c b⟩
theorem wK {f:FuncId}{g:qQ D}{j:CQ D}{k:Nat}{e:List Nat}{c:g.A->Bool}{p:g.A->Prop}{f1 f2:g.A->j.X}(u:dJ P S f (mi g j k e (fun a=>some (c a=true/\p a)) f1))
  (y:dJ P S f (mi g j k e (fun a=>some (c a=false/\p a)) f2)):dJ P S f (mi g j k e (fun a=>some (p a)) (fun a=>bif c a then f1 a else f2 a)):=by
 refine⟨u.enters,fun X N n w args o v q r C F t i b d=> ?_⟩;unfold mi at b;split at b
 ·cases b
 rename_i a m;injection b with b
 injection b with A b
 injection b with B b
 injection b with E x
 subst A B E x;have d:p a:=d;have s:∀z,(bif c a then f1 a else f2 a)=z->(fun a=>bif c a then f1 a else f2 a) a=z:=fun z h=>h
 cases l:c a with
 | true=>
  rw[s _ (by rw[l])];exact u.calls X N n w args o v (some (dq (c a=true/\p a))) _ _ _ t i (by unfold mi;rw[m];rfl) ⟨l,d⟩
 | false=>
  rw[s _ (by rw[l])];exact y.calls X N n w args o v (some (dq (c a=false/\p a))) _ _ _ t i (by unfold mi;rw[m];rfl) ⟨l,d⟩
end
end Go.Vc

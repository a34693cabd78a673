/- Own engine: Vdr, Vds, Vdg, Vdi, Vdj. -/
import Derived.Test.YtenjnekcoapajaaGreatDoorEng2
import Derived.Lib.Overlaps
import Derived.Lib.AppendZerosOnto
set_option linter.unusedVariables false
set_option linter.unusedSimpArgs false
namespace Go.Vc
open Go.RowKit
section
variable {D:Type}{P:Program}{S:Sh D}{T:TypeId->Option Ty}{M N:Nat->Prop}{w w':World}{w0:Bs}{g:Nat->Option Value}{blk:Nat->Option (Bk D)}{al:Nat->Prop}
 {a:Act} {o:Oper} {K:Act->World->Prop} {Q:Exit->Act->World->Prop} {slot:Nat->Sl D} {out:Out D} {fr:Nat}
theorem Gl (p:ShOk S){d f:D}{c:Option Addr}{n a l h:Nat}(A:bW S M w d (.slice c n a))(t:S.sub d l h=some f)(B:l<=h)(F:h<=S.len d):bW S M w f (sliced c l h a (S.size d)):=by
 obtain⟨k,J,q⟩:=p.sub _ _ _ _ t B F;intro w' z;have r:=A w' z;generalize G:Value.slice c n a=v at r;cases r with
 | mp d m v O R P h=>rcases h.2 with⟨e,_⟩ | ⟨_,_,_,e,_⟩<;>(grind)
 | mk d N T C U I E g u o=>
  injection G with K Q H
  subst K H;show CS S w' f (.slice (if a=l then c else c.map (·.add (l*S.size d))) (h - l) (a - l))
  rw[<-J];refine CS.mk f (p.EN _ _ _ _ t).2 _ (a - l) (fun i j=>U (l+i) j) aj aj (fun i j y b=> ?_) (fun i j y b=> ?_) (fun i j x y b s=> ?_)
  ·rw[k]at b;obtain⟨W,L,V⟩:=g (l+i) j aj b
   grind [add_add']
  ·rw[k]at b;rw[q i j aj];exact u (l+i) j aj b
  ·rw[k]at b;rw[q i j aj]at s;exact o (l+i) j x aj b s
theorem QN {n:Nat}{b:Option Operand}{l:Int}(d:∀x:Operand,(aP slot x).Rel S M w g (a.eval x))(h:bnd n (b.map (aP slot))=some l):(b=none/\l=n)\/∃x k,b=some x/\a.eval x= .int k l:=by
 cases b with
 | none=>simp only[Qb4,bnd,XM]at h;grind
 | some x=>
  simp only[Qbm]at h;unfold bnd at h;split at h
  ·grind
  ·rename_i k i c;injection c with c
   injection h with h
   subst h;have:=d x;rw[c]at this;exact .inr ⟨x,k,rfl,this⟩
  ·cases h
theorem alc (q:ShOk S){d c:D}{b:Option Addr}{n k h:Nat}(B:bW S M w d (.slice b n k))(u:S.sub d 0 h=some c)(F:h<=S.len d)(l:S.len c=h - 0):∃a,sliced b 0 h h (S.size d)= .slice a (S.len c) (S.len c)/\bW S M w c (sliced b 0 h h (S.size d)):=by
 obtain⟨o,T,r⟩:=q.sub _ _ _ _ u (Gw _) F;refine⟨if h=0 then b else b.map (·.add (0*S.size d)),by rw[l];rfl,?_⟩;intro w' A;have s:=B w' A;generalize G:Value.slice b n k=v at s;cases s with
 | mp d m v N l O h=>rcases h.2 with⟨e,_⟩ | ⟨_,_,_,e,_⟩<;>(grind)
 | mk d L Q C U I E g y p=>
  injection G with J P H
  subst J H;show CS S w' c (.slice (if h=0 then b else b.map (·.add (0*S.size d))) (h - 0) (h - 0))
  rw[<-l];refine CS.mk c (q.EN _ _ _ _ u).2 _ (S.len c) (fun i j=>U (0+i) j) (pJ _) aj (fun i j z f=> ?_) (fun i j z f=> ?_) (fun i j x z f t=> ?_)
  ·rw[o]at f;obtain⟨V,K,R⟩:=g (0+i) j aj f
   grind [add_add']
  ·rw[o]at f;rw[r i j aj];exact y (0+i) j aj f
  ·rw[o]at f;rw[r i j aj]at t;exact p (0+i) j x aj f t
theorem Js {t e:TypeId}{x:Operand}{k m:Option Operand}{r s n cap:Nat}{j:Option Addr}{l d:Int}(A:o.op= .slice t x k m none)(p:P.underlying t=some (.slice e))(b:(sizeOf e).run P w= .ok r w)(D:a.eval x= .slice j n cap)(E:n<=cap)
  (q:∀x:Operand,(aP slot x).Rel S (aS N blk g) w g (a.eval x)) (B:bnd 0 (k.map (aP slot))=some l) (u:bnd n (m.map (aP slot))=some d) (z:r=s) (L:0<=l) (J:l<=d) (H:d<=n):
  (execOp a.eval o).run P w= .ok (.value (sliced j l.toNat d.toNat cap s)) w:=by
 have c:P.elem t=e:=by simp[Program.elem,p]
 have f:P.underlying t=some (.slice (P.elem t)):=by grind
 have C:(execOp a.eval o).run P w=((Instr.slice t (.slice j (n) cap) (k.map a.eval) (m.map a.eval) none).run P w).andThen fun v w=> .ok (.value v) w:=by
  simp[execOp,A,D,run_sliceAt_slice w t _ _ _ _ f]
 rw[C];rcases QN q B with⟨rfl,F⟩ | ⟨I,kl,rfl,i⟩<;>rcases QN q u with⟨rfl,G⟩ | ⟨K,y,rfl,h⟩
 ·simp only[Qb4];rw[run_slice_all w t _ _ _ f,c,b];simp_all
 ·simp only[Qb4,Qbm,h];rw[run_slice_h w t _ _ _ f y d aj aj,c,b];simp_all
 ·simp only[Qb4,Qbm,i];rw[run_slice_l w t _ _ _ f kl l aj aj,c,b];simp_all
 ·simp only[Qbm,i,h];rw[run_slice_lh w t _ _ _ f kl y l d aj aj aj,c,b,<-z];rfl
theorem aen {t:TypeId}{x:Operand}{U Y:Option Operand}(hS:ShOk S)(H:o.op= .slice t x U Y none)(k:∀t J,T t=some J->TyOk P t J)(h:Hp S w0 N blk g al w)
  (z:∀x:Operand,(aP slot x).Rel S (aS N blk g) w g (a.eval x)) (c:ajI T S blk t (aP slot x) (U.map (aP slot)) (Y.map (aP slot))=some out) (V:lG out.pre) (L:Post S w0 N blk g al w fr out o.dst a K):o.wp P a w K Q:=by
 have f:=z x;unfold ajI at c;split at c
 ·cases c
 ·rename_i J B;split at c
  ·cases c
  ·rename_i l I;split at c
   ·rename_i s j;rw[j]at f;simp only[Sl.Rel,Sv.Rel,Lf.Rel]at f;obtain⟨f,F⟩:=f;split at c
    ·rename_i W;obtain⟨d,y,hkd⟩:=mV (k _ _ B);have W:J.kind=3:=by simpa using W
     rw[W]at hkd;have y:P.underlying t=some .string:=by cases d<;>simp_all [kindOf]
     split at c
     ·rename_i p i;injection c with c
      subst c;obtain⟨G,C,A⟩:=V;have m:(ByteArray.mk s.toArray).size=s.length:=by rfl
      have aJq:(ByteArray.mk s.toArray).extract l.toNat p.toNat=⟨((s.take p.toNat).drop l.toNat).toArray⟩:=by
       apply ByteArray.ext;rw[ByteArray.data_extract]
       grind
      refine aY (v:= .string ⟨((s.take p.toNat).drop l.toNat).toArray⟩) ?_ h L rfl ⟨rfl,by grind⟩;rw[<-aJq];have e1:(execOp a.eval o).run P w=((Instr.slice t (.string ⟨s.toArray⟩) (U.map a.eval) (Y.map a.eval) none).run P w).andThen fun v w=> .ok (.value v) w:=by
       simp[execOp,H,f,run_sliceAt_string w t _ _ _ _ y]
      rw[e1];rcases QN z I with⟨rfl,hl0⟩ | ⟨xl,kl,rfl,F⟩<;>rcases QN z i with⟨rfl,hh0⟩ | ⟨xh,kh,rfl,M⟩
      ·simp only[Qb4];rw[run_slice_string_all w t _ y];simp_all
      ·simp only[Qb4,Qbm,M];rw[run_slice_string_h w t _ y kh p aj aj];simp_all
      ·simp only[Qb4,Qbm,F];rw[run_slice_string_l w t _ y kl l aj aj];simp_all
      ·simp only[Qbm,F,M];rw[run_slice_string w t _ kl kh l p y aj aj aj];rfl
     ·cases c
    ·cases c
   ·rename_i d j;rw[j]at f;split at c
    ·cases c
    ·rename_i e D;split at c
     ·cases c
     ·rename_i te E;have r:=lZ (k _ _ B) D;have m:=kJ (k _ _ E) w;split at c
      ·rename_i hc;simp only[iZ]at hc;have h1:=Qa hc.1;split at c
       ·rename_i p i;split at c
        ·rename_i d' O;injection c with c
         subst c;obtain⟨G,C,A⟩:=V;have f:bW S (aS N blk g) w d (a.eval x):=f;obtain⟨av,cap,hv,X⟩:=bW.slice' f (hS.EN _ _ _ _ O).1;rw[hv]at f;have R:=Gl hS f O aj aj;refine aY (v:=sliced av l.toNat p.toNat cap (S.size d)) ?_ h L rfl R;exact Js H r m hv X z I i h1 G C A
        ·cases c
       ·cases c
      ·cases c
   ·rename_i q j;rw[j]at f;have f:g q=some (a.eval x):=f;split at c
    ·cases c
    ·rename_i e D;split at c
     ·cases c
     ·rename_i te E;have r:=lZ (k _ _ B) D;have m:=kJ (k _ _ E) w;split at c
      ·rename_i e' d hb;split at c
       ·rename_i p i;injection c with c
        subst c;obtain⟨G,C,A⟩:=V;obtain⟨v,u,_,xs,⟨_,Z⟩,_⟩:=h.bY q _ hb;rw[f]at u;injection u with u
        rcases Z with⟨h0,hn0⟩ | ⟨b,cap',cur,hvv,_,_,hnc,_⟩
        ·exact aY (v:=_) (Js (n:=S.len d) (cap:=0) H r m dm aj z I i rfl G C A) h L rfl ⟨none,S.len d,0,by grind,rfl,by omega,by omega,rfl⟩
        ·exact aY (v:=_) (Js (n:=S.len d) H r m (by rw[u,hvv]) hnc z I i rfl G C A) h L rfl ⟨_,S.len d,_,by grind,rfl,by omega,by omega,rfl⟩
       ·cases c
      ·cases c
   ·cases c
end
end Go.Vc
namespace Go.Vc
open Go.RowKit
section
variable {P:Program}{w w':World}
end
section
variable {D:Type}{P:Program}{S:Sh D}
end
end Go.Vc
namespace Go.Vc
open Go.RowKit
section
variable {D:Type}{P:Program}{S:Sh D}{T:TypeId->Option Ty}{Γ:FuncId->Option (Ct D)}{M M' N:Nat->Prop}{w w':World}{w0:Bs}{g g':Nat->Option Value}{blk:Nat->Option (Bk D)}{al:Nat->Prop}
 {a:Act} {o:Oper} {K:Act->World->Prop} {Q:Exit->Act->World->Prop} {slot:Nat->Sl D} {out:Out D} {fr:Nat} {ids jv:List Nat}
theorem fC {l:Nat}:∀{ids:List Nat},rP l ids=true ↔ l∈ids
 | []=>by simp[rP]
 | x::r=>by
  simp only[rP,Qbi,fC,yw];constructor
  ·rintro(h | h)
   ·exact .inl (Qa h).symm
   ·exact .inr h
  ·rintro(rfl | h)
   ·exact .inl jQ
   ·exact .inr h
theorem oG:∀(r ids:List Nat),ids.Nodup->(mZ ids r).Nodup
 | [],ids,h=>h
 | l::r,ids,h=>by
  unfold mZ;refine oG r _ ?_
  grind [fC]
theorem EH:∀(n:Nat) (ids:List Nat),ids.Nodup->(reach blk n ids).Nodup
 | 0,ids,h=>h
 | n+1,ids,h=>EH n _ (oG _ _ h)
theorem qM:∀{r:List Nat},allIn ids r=true->∀l∈r,l∈ids
 | [],_,l,a=>by simp at a
 | x::r,h,l,a=>by
  simp only[allIn,iZ]at h;rcases yw.1 a with rfl | a
  ·exact fC.1 h.1
  ·exact qM h.2 l a
theorem oC:∀{ids:List Nat} {a:List (Bk D)},zy blk ids=some a->a.length=ids.length/\∀(i l:Nat),ids[i]? =some l->∃d,blk l=some d/\a[i]? =some d
 | [],a,h=>by simp[zy]at h;subst h;simp
 | x::r,a,h=>by
  unfold zy at h;split at h
  ·rename_i b f g c;injection h with h
   subst h;obtain⟨e,j⟩:=oC c
   grind
  ·cases h
theorem qL:∀{ids:List Nat} {l:Nat},l∈ids->ids[g_ ids l]? =some l
 | [],l,h=>by simp at h
 | x::r,l,h=>by
  unfold g_;split
  ·simp_all
  ·rename_i a;have:l∈r:=by
    rcases yw.1 h with rfl | h
    ·simp at a
    ·exact h
   simpa using qL this
theorem EE (c:ids.Nodup){i l:Nat}(h:ids[i]? =some l):g_ ids l=i:=by
 have e:l∈ids:=Qbz h;have a:=qL e;have f:=(Qbc.1 h).1;have g:=(Qbc.1 a).1;have b:=(Qbc.1 h).2;have d:=(Qbc.1 a).2;exact(List.getElem_inj c).1 (d.trans b.symm)
theorem ae6 {f:Nat->Nat}:∀{a:List Nat} {b:List Value},(∀l∈a,∀v,g l=some v->g' (f l)=some v)->a.map g=b.map some->(a.map f).map g'=b.map some
 | [],[],_,_=>rfl
 | c::a,v::b,d,h=>by
  simp only[Qp,Qdk]at h⊢;exact⟨d c jQ v h.1,ae6 (fun l hl=>d l qbu) h.2⟩
 | [],_::_,_,h=>by simp at h
 | _::_,[],_,h=>by simp at h
theorem Lf.Rel.ren {f:Nat->Nat}{x:Lf D}{v:Value}(h:x.Rel S M w g v)(r:∀l∈x.refs,∀u,g l=some u->g' (f l)=some u)(t:x.lJ=true->∀b,M' b->M b):(x.ren f).Rel S M' w g' v:=by
 cases x with
 | ptr l o=>obtain⟨b,c,m⟩:=h;exact⟨b,r l qbe _ c,m⟩
 | own l=>exact r l qbe _ h
 | opt l i j A=>obtain⟨b,n,q,c,m⟩:=h;exact⟨b,n,q,r l qbe _ c,m⟩
 | part l i j A f=>obtain⟨a,n,q,c,m⟩:=h;exact⟨a,n,q,r l qbe _ c,m⟩
 | glb i=>exact h
 | Xw x=>exact h
 | xt e=>exact Xt.Rel.mono h (t rfl)
 | fn B z=>obtain⟨y,c,m⟩:=h;exact⟨y,c,ae6 r m⟩
 | dat d=>exact bW.mono h (t rfl)
 | elt d i j=>obtain⟨a,n,q,c,m⟩:=h;exact⟨a,n,q,c.mono (t rfl),m⟩
 | any=>trivial
 | unk p=>exact h
 | val x=>exact h
 | bool b=>exact h
 | int k n=>exact h
 | str s=>exact h
theorem aW.ren {f:Nat->Nat}:∀{a:List (Lf D)} {d:List Value},aW S M w g a d->(∀l∈a.flatMap Lf.refs,∀u,g l=some u->g' (f l)=some u)->(a.any Lf.lJ=true->∀b,M' b->M b)->aW S M' w g' (a.map (Lf.ren f)) d
 | [],[],_,_,_=>trivial
 | x::a,v::d,h,i,e=>by
  simp only[Qda,Qbi]at e;exact⟨h.1.ren (fun l hl=>i l qbu) (fun c=>e (.inl c)),aW.ren h.2 (fun l hl=>i l dm) (fun c=>e (.inr c))⟩
theorem Sv.Rel.ren {f:Nat->Nat}{x:Sv D}{v:Value}(h:x.Rel S M w g v)(a:∀l∈x.refs,∀u,g l=some u->g' (f l)=some u)(c:x.lJ=true->∀b,M' b->M b):(x.ren f).Rel S M' w g' v:=by
 cases x with
 | lf x=>exact Lf.Rel.ren h a c
 | agg j=>obtain⟨e,d,i⟩:=h;exact⟨e,d,i.ren a c⟩
theorem fP.ren {f:Nat->Nat}:∀{a:List (Sv D)} {d:List Value},fP S M w g a d->(∀l∈a.flatMap Sv.refs,∀u,g l=some u->g' (f l)=some u)->(a.any Sv.lJ=true->∀b,M' b->M b)->fP S M' w g' (a.map (Sv.ren f)) d
 | [],[],_,_,_=>trivial
 | x::a,v::d,h,i,e=>by
  simp only[Qda,Qbi]at e;exact⟨h.1.ren (fun l hl=>i l qbu) (fun c=>e (.inl c)),fP.ren h.2 (fun l hl=>i l dm) (fun c=>e (.inr c))⟩
theorem Sl.Rel.ren {f:Nat->Nat}{x:Sl D}{v:Value}(h:x.Rel S M w g v)(a:∀l∈x.refs,∀u,g l=some u->g' (f l)=some u)(c:x.lJ=true->∀b,M' b->M b):(x.ren f).Rel S M' w g' v:=by
 cases x with
 | one x=>exact Sv.Rel.ren h a c
 | Dh j=>obtain⟨e,d,i⟩:=h;exact⟨e,d,i.ren a c⟩
theorem KX {f:Nat->Nat}(x:Option (Bk D)):hot (x.map (Bk.ren f))=hot x:=by
 cases x with
 | none=>rfl
 | some a=>cases a<;>rfl
theorem WU {f:Nat->Nat}{x:Lf D}(h:x.jr=true):x.ren f=x:=by cases x<;>first | rfl | simp[Lf.jr]at h
theorem agK {x:Lf D}(h:x.jr=true):x.refs=[]:=by cases x<;>first | rfl | simp[Lf.jr]at h
theorem vk.ren {f:Nat->Nat}{B B':Bs}{c:Bk D}{v:Value}(h:vk S M w g B c v)(q:∀l∈c.refs,∀u,g l=some u->g' (f l)=some u)(x:c.lJ=true->∀b,M' b->M b)
  (o:hot (some c)=true->∀b,dE v=some b->B'.Mine b):vk S M' w g' B' (c.ren f) v:=by
 cases c with
 | cells cs=>
  obtain⟨b,y,t,rfl,_,a,k⟩:=h;exact⟨b,y,t,rfl,o rfl b rfl,a,k.ren q x⟩
 | row e d=>
  obtain⟨A,H,z,I⟩:=h;refine⟨⟨o rfl,A.2⟩,H,z,fun i j G J=> ?_⟩;obtain⟨u,K,C,F⟩:=I i j G J;have:=F.ren (g':=g') (M':=M') (f:=f) (fun l r=>by rw[agK C]at r;simp at r) (fun _=>x rfl);rw[WU C]at this
  grind
 | wY d=>exact bW.mono h (x rfl)
 | iter s p=>
  obtain⟨r,b,rfl,_,a⟩:=h;exact⟨r,b,rfl,o rfl b rfl,a⟩
 | map d=>
  obtain⟨m,b,E,n,A,q,rfl,_,a,k⟩:=h;exact⟨m,b,E,n,A,q,rfl,o rfl b rfl,a,k⟩
 | tc t cs=>
  obtain⟨b,y,rfl,_,a,k⟩:=h;exact⟨b,y,rfl,o rfl b rfl,a,k.ren q x⟩
def Nc (N:Nat->Prop)(a:Nat->Option (Bk D))(g:Nat->Option Value)(ids c:List Nat):Nat->Prop:=
 fun b=>N b\/∃l v,hot (a l)=true/\l∉ids/\l∉c/\g l=some v/\dE v=some b
def Xc (a:Nat->Option (Bk D))(g:Nat->Option Value)(ids:List Nat):Nat->Prop:=fun b=>∃l v,hot (a l)=true/\l∈ids/\g l=some v/\dE v=some b
def gc (g:Nat->Option Value)(ids:List Nat):Nat->Option Value:=fun i=>(ids[i]?).bind g
theorem acm {l:Nat}(h:l∈ids):gc g ids (g_ ids l)=g l:=by simp[gc,qL h]
theorem Hp.mine (h:Hp S w0 N blk g al w){l b:Nat}{v:Value}(c:hot (blk l)=true)(e:g l=some v)(f:dE v=some b):b < w.heap.size/\w0.Mine b:=by
 obtain⟨i,_,d,a⟩:=h.at c e;exact a.lt d f
theorem Hp.agY (h:Hp S w0 N blk g al w){l b:Nat}{v:Value}(a:hot (blk l)=true)(e:g l=some v)(f:dE v=some b):¬N b:=fun d=>by
 obtain⟨i,c⟩:=h.hN b d;rcases(h.mine a e f).2 with q | q
 ·omega
 ·exact c q
theorem aaK {b:List (Bk D)}(g:zy blk ids=some b){f:Nat->Nat}{i:Nat}{c:Bk D}(h:jD (b.map (Bk.ren f)) i=some c):∃l a,ids[i]? =some l/\blk l=some a/\a∈b/\c=a.ren f:=by
 obtain⟨m,d⟩:=oC g;simp only[jD,Qb1,Qb3]at h;obtain⟨a,n,rfl⟩:=h;have e:i < ids.length:=by grind
 obtain⟨j,k,o⟩:=d i ids[i] (Qas e)
 grind
theorem uP {h:List (Bk D)}(r:zy blk ids=some h){f:Nat->Nat}:∀b,aS (Nc N blk g ids jv) (jD (h.map (Bk.ren f))) (gc g ids) b->aS N blk g b/\(N b\/∃l v,hot (blk l)=true/\l∉jv/\g l=some v/\dE v=some b\/l∈ids/\hot (blk l)=true/\g l=some v/\dE v=some b):=by
 rintro b ((o | ⟨l,v,a,q,c,n,j⟩) | ⟨i,v,a,q,c⟩)
 ·exact⟨.inl o, .inl o⟩
 ·exact⟨.inr ⟨l,v,a,n,j⟩, .inr ⟨l,v, .inl ⟨a,c,n,j⟩⟩⟩
 ·obtain⟨t,p,u⟩:=iM a;obtain⟨l,s,m,k,_,rfl⟩:=aaK r p;have e:g l=some v:=by simpa[gc,m]using q
  have d:hot (blk l)=true:=by rw[k];have:=KX (f:=f) (some s);grind
  exact⟨.inr ⟨l,v,d,e,c⟩, .inr ⟨l,v, .inr ⟨Qbz m,d,e,c⟩⟩⟩
theorem Hp.lend (h:Hp S w0 N blk g al w){q:List (Bk D)}(H:ids.Nodup)(k:zy blk ids=some q)(o:∀z∈q,∀l∈z.refs,l∈ids)(hv:∀l∈jv,l∉ids):
  Hp S ⟨w,Xc blk g ids⟩ (Nc N blk g ids jv) (jD (q.map (Bk.ren (g_ ids)))) (gc g ids) (· < (q.map (Bk.ren (g_ ids))).length) w:=by
 obtain⟨R,ab⟩:=oC k;refine⟨xX.refl ⟨w,Xc blk g ids⟩,?_,?_,?_,?_,?_,h.gl.mono fun b c=>(uP k b c).1⟩
 ·rintro b (c | ⟨l,v,p,U,I,r,y⟩)
  ·refine⟨h.mlt (.inl c),?_⟩;rintro⟨l,v,p,U,I,r⟩;exact h.agY p I r c
  ·refine⟨h.mlt (.inr ⟨l,v,p,r,y⟩),?_⟩;rintro⟨m,X,V,q2,O,M⟩;have:=h.sep l m v X b p V r O y M
   grind
 ·intro i z a;obtain⟨l,x,d,n,t,rfl⟩:=aaK k a;obtain⟨v,s,E⟩:=h.bY l x n;refine⟨v,by simp[gc,d,s],E.ren (fun m e u Q=> ?_) (fun _ b c=>(uP k b c).1) (fun hh b c=> .inr ⟨l,v,by grind,Qbz d,s,c⟩)⟩;rw[acm (o _ t m e)];exact Q
 ·intro i j W P b a Z G A L J;obtain⟨ad,K,ag⟩:=iM a;obtain⟨aa,C,ac⟩:=iM Z;obtain⟨l,x,d,n,_,rfl⟩:=aaK k K;obtain⟨m,F,e,B,_,rfl⟩:=aaK k C;have T:hot (blk l)=true:=by rw[n];have:=KX (f:=g_ ids) (some x);grind
  have Y:hot (blk m)=true:=by rw[B];have:=KX (f:=g_ ids) (some F);grind
  have:=h.sep l m W P b T Y (by simpa[gc,d]using G) (by simpa[gc,e]using A) L J;subst this;rw[<-EE H d,<-EE H e]
 ·intro i v a;simp only[gc]at a
  grind
 ·intro i v a;simp only[gc]at a;cases d:ids[i]? with
  | none=>grind
  | some l=>rw[d]at a;exact h.refs l v a
end
end Go.Vc
namespace Go.Vc
open Go.RowKit
section
variable {D:Type}{P:Program}{S:Sh D}{T:TypeId->Option Ty}{Γ:FuncId->Option (Ct D)}{M M' N:Nat->Prop}{w w':World}{w0:Bs}{g g':Nat->Option Value}{blk blk':Nat->Option (Bk D)}{al:Nat->Prop}
 {a:Act} {o:Oper} {K:Act->World->Prop} {Q:Exit->Act->World->Prop} {slot:Nat->Sl D} {out:Out D} {fr:Nat} {ids jv:List Nat}
theorem JA (h:Hp S w0 N blk g al w){c:Nat}{e:TypeId}{d:D}{v:Value}{M':Nat->Prop}(O:blk c=some (.row e d))(L:g c=some v)(P:∀b,M' b->aS N blk g b)(M:∀b,dE v=some b->¬M' b):
  bW S M' w d v:=by
 intro w' A;obtain⟨V,o,y,U,t,r⟩:=h.bY c _ O;rw[L]at o;injection o with o
 subst o;rcases t.2 with⟨rfl,T⟩ | ⟨b,B,n,rfl,_,C,F,_,R,G⟩
 ·have:=CS.mk (S:=S) (w:=w') d y.2.2 none 0 (fun _ _=> .bool false) aj aj (fun i j a _=>by omega) (fun i j a _=>by omega) (fun i j _ a _=>by omega)
  grind
 ·have z:w'.heap[b]? =some (.cells n e (0,0)):=(A b (RJ C) (M b rfl)).trans C;have p:∀i j,i < S.len d->j < S.size d->∃u,n[i*S.size d+j]? =some u/\Lf.plain (S.cell d i j) u/\∀q,S.cell d i j= .dat q->CS S w' q u:=by
   intro i j a m;obtain⟨u,k,s,K⟩:=r i j a m;have Q:=D5 a m;have:n[i*S.size d+j]? =some u:=by
    grind
   have E:(S.cell d i j).Rel S M' w g u:=by
    have:=K.ren (g':=g) (M':=M') (f:=fun x=>x) (fun l _ u k=>k) (fun _=>P);rw[WU s]at this;exact this
   exact⟨u,this,Ii s E A⟩
  refine CS.mk (S:=S) (w:=w') d y.2.2 (some ⟨b,0,none⟩) B (fun i j=>(n[i*S.size d+j]?).getD undef) F y.2.1 (fun i j a m=> ?_) (fun i j a m=> ?_) (fun i j q a m H=> ?_)
  ·obtain⟨u,k,_⟩:=p i j a m;refine⟨_,rfl,?_⟩;simp only[k,Qdg];rw[lg,Bc];simp[World.cell?,z,<-k]
  ·obtain⟨u,k,J,_⟩:=p i j a m;simpa[k]using J
  ·obtain⟨u,k,_,I⟩:=p i j a m;simpa[k]using I q H
theorem akU (j:∀d m,S.mp d=some m->S.len d=0/\S.size d=0)(h:Hp S w0 N blk g al w){c:Nat}{d:D}{v:Value}{e:Nat->Prop}(u:blk c=some (.map d))(r:g c=some v)(t:∀b,dE v=some b->¬e b):
  bW S e w d v:=by
 intro w' s;obtain⟨x,a,m,b,l,n,i,o,rfl,_,f,k⟩:=h.bY c _ u;rw[r]at a;injection a with a
 subst a;obtain⟨p,q⟩:=j _ _ i;exact .mp d m _ i p q ⟨o, .inr ⟨b,l,n,rfl,(s b (RJ f) (t b rfl)).trans f,k⟩⟩
theorem abJ {a:Option (Bk D)}{d:D}(h:rwD a=some d):hot a=true:=by
 unfold rwD at h;split at h<;>first | rfl | cases h
theorem ajM (k:ShOk S)(h:Hp S w0 N blk g al w){c:Nat}{d:D}{v:Value}{f:Nat->Prop}(a:rwD (blk c)=some d)(j:g c=some v)(o:∀b,f b->aS N blk g b)(l:∀b,dE v=some b->¬f b):
  bW S f w d v:=by
 unfold rwD at a;split at a
 ·rename_i e p i;injection a with a
  subst a;exact JA h i j o l
 ·rename_i p i;injection a with a
  subst a;exact akU (fun d m n=>⟨(k.x8 d m n).1,(k.x8 d m n).2.1⟩) h i j l
 ·cases a
def xx (g b:Nat->Option Value)(ids:List Nat)(a:Nat):Nat->Option Value:=fun l=>
 match g l with
 | some u=>some u
 | none=>if a<=l/\l < a+64 then b (ids.length+(l - a))else none
theorem CP {a:Nat->Option Value}:More g (xx g a ids fr):=fun l v b=>by simp[xx,b]
structure Back (blk blk':Nat->Option (Bk D))(tab:Nat->Option (Bk D))(ids jv:List Nat)(fr:Nat)(fz:Bool):Prop where
 b1:∀l∈ids,blk' l=(tab (g_ ids l)).map (Bk.ren (backTo ids fr))
 b2:∀j,j < 64->blk' (fr+j)=(tab (ids.length+j)).map (Bk.ren (backTo ids fr))
 b3:∀l∈jv,fz=true->(∃d,rwD (blk l)=some d/\blk' l=some (.wY d))\/(hot (blk l)=false/\blk' l=blk l)
 b4:∀l,l∉ids->(fz=true->l∉jv)->¬(fr<=l/\l < fr+64)->blk' l=blk l
theorem Hp.back (hS:ShOk S)(h:Hp S w0 N blk g al w){bY:List (Bk D)}{r:Nat->Option (Bk D)}{m:Nat->Option Value}{X:Bool}(hfr:∀n,fr<=n->n < fr+64->¬al n)(F:ids.Nodup)(hg:zy blk ids=some bY)(hv:∀l∈jv,l∉ids)
  (hm:More (gc g ids) m) (G:Hp S ⟨w,Xc blk g ids⟩ (Nc N blk g ids jv) (r) m (fun _=>True) w') (U:Back blk blk' r ids jv fr X)
  (aJz:∀i,(r i).isSome=true->i < ids.length+64) (hrefs:∀i a,r i=some a->∀l∈a.refs,(r l).isSome=true) (hfz:∀i a,r i=some a->a.lJ=true->X=true):
  Hp S w0 N blk' (xx g m ids fr) (fun n=>al n\/(fr<=n/\n < fr+64)) w'/\Keeps (aS N blk g) w (aS N blk' (xx g m ids fr)) w'/\
   (X=true->∀b,aS N blk' (xx g m ids fr) b->aS (Nc N blk g ids jv) (r) m b)/\
   ∀i,(r i).isSome=true->∀u,m i=some u->xx g m ids fr (backTo ids fr i)=some u:=by
 obtain⟨hlen,hat⟩:=oC hg;have aIc:∀l∈ids,∃u,g l=some u:=fun l o=>by
  obtain⟨a,B,_⟩:=hat _ l (qL o);obtain⟨v,hv,_⟩:=h.bY l a B
  grind
 have glt:∀l u,g l=some u->¬(fr<=l/\l < fr+64):=fun l u o hle=>hfr l hle.1 hle.2 (h.al l u o)
 have aIb:∀l,fr<=l->l < fr+64->g l=none:=fun l o hl2=>by
  cases e:g l with
  | none=>rfl
  | some u=>grind
 have gb:∀i,(r i).isSome=true->∀u,m i=some u->xx g m ids fr (backTo ids fr i)=some u:=by
  intro i hi u R;unfold backTo;by_cases V:i < ids.length
  ·rw[vJ qbx];have o:ids[i]? =some (ids.getD i 0):=by grind
   obtain⟨u0,hu0⟩:=aIc _ (Qbz o);have:m i=some u0:=hm i u0 (by unfold gc;grind);rw[this]at R;injection R with R
   subst R;exact CP _ _ hu0
  ·rw[uU qbx];have:=aJz i hi;simp only[xx,aIb (fr+(i - ids.length)) aj aj]
   grind
 have y:∀l a,blk' l=some a->(∃i x,r i=some x/\a=x.ren (backTo ids fr)/\l=backTo ids fr i)\/
   (l∉ids/\¬(fr<=l/\l < fr+64)/\blk l=some a/\(hot (some a)=true->X=true->l∉jv))\/(X=true/\l∈jv/\∃d,rwD (blk l)=some d/\a= .wY d):=by
  intro l a o;by_cases s:l∈ids
  ·rw[U.b1 l s]at o;obtain⟨x,c,rfl⟩:=Qb3.1 o;refine .inl ⟨_,x,c,rfl,?_⟩;unfold backTo;have:=qL s;have V:=(Qbc.1 this).1;simp_all
  ·by_cases z:fr<=l/\l < fr+64
   ·obtain⟨j,rfl⟩:∃j,l=fr+j:=⟨l - fr,by omega⟩;rw[U.b2 j aj]at o;obtain⟨x,c,rfl⟩:=Qb3.1 o;refine .inl ⟨_,x,c,rfl,?_⟩;unfold backTo;rw[uU qbx];omega
   ·by_cases p:X=true/\l∈jv
    ·rcases U.b3 l p.2 p.1 with⟨d,c,L⟩ | ⟨c,L⟩
     ·rw[L]at o;injection o with o
      exact .inr (.inr ⟨p.1,p.2,d,c,o.symm⟩)
     ·rw[L]at o;obtain⟨u,R,_⟩:=h.bY l a o;exact .inr (.inl ⟨s,glt l u R,o,fun t=>by rw[o]at c;rw[c]at t;cases t⟩)
    ·have q:=U.b4 l s (fun e hm=>p ⟨e,hm⟩) z
     grind
 have ac9:∀(f:Nat->Nat) (a:Bk D),hot (some (a.ren f))=hot (some a):=fun f a=>by cases a<;>rfl
 have left:∀i a v b,r i=some a->hot (some a)=true->m i=some v->dE v=some b->b < w'.heap.size/\(w.heap.size<=b\/Xc blk g ids b):=by
  intro i a v b s z p C;exact G.mine dm p C
 have xm:∀b,Xc blk g ids b->aS N blk g b:=fun b ⟨l,v,s,z,p,C⟩=> .inr ⟨l,v,s,p,C⟩
 have aIO:∀b,Xc blk g ids b->w0.Mine b:=fun b ⟨l,v,s,z,p,C⟩=>(h.mine s p C).2
 have aJD:∀l v b,hot (blk l)=true->l∉ids->g l=some v->dE v=some b->¬Xc blk g ids b:=by
  rintro l v b s z p C ⟨A,M,c,L,q3,q4⟩;have:=h.sep l A v M b s c p q3 C q4
  grind
 have H:∀b,b < w.heap.size->¬Xc blk g ids b->w'.heap[b]? =w.heap[b]? :=fun b s z=>G.below.block b s z
 have I:∀l,¬(fr<=l/\l < fr+64)->xx g m ids fr l=g l:=fun l o=>by
  unfold xx
  grind
 have aJR:∀l a,blk l=some a->∃v,g l=some v:=fun l a o=>by obtain⟨v,hv,_⟩:=h.bY l a o;grind
 have ac8:∀i a,r i=some a->∃v,m i=some v/\xx g m ids fr (backTo ids fr i)=some v:=fun i a hi=>by
  obtain⟨v,hv,_⟩:=G.bY i a hi
  grind
 have hk:Keeps (aS N blk g) w (aS N blk' (xx g m ids fr)) w':=by
  refine⟨G.below.size,fun b V W=>⟨?_,H b V fun q=>W (xm b q)⟩⟩;rintro(K | ⟨l,v,s,z,p⟩)
  ·exact W (.inl K)
  ·obtain⟨a,B,t⟩:=iM s;rcases y l a B with⟨i,x,c,rfl,rfl⟩ | ⟨c,L,q3,_⟩ | ⟨_,_,d,_,rfl⟩
   ·grind
   ·rw[I l L]at z;exact W (.inr ⟨l,v,by grind,z,p⟩)
   ·simp[hot]at t
 have Y:X=true->∀b,aS N blk' (xx g m ids fr) b->aS (Nc N blk g ids jv) (r) m b:=by
  rintro hz b (K | ⟨l,v,s,z,p⟩)
  ·exact .inl (.inl K)
  ·obtain⟨a,B,t⟩:=iM s;rcases y l a B with⟨i,x,c,rfl,rfl⟩ | ⟨c,L,q3,q4⟩ | ⟨_,_,d,_,rfl⟩
   ·obtain⟨v0,Z,Q⟩:=ac8 i x c;rw[z]at Q;injection Q with Q
    subst Q;rw[ac9]at t;exact .inr ⟨i,v,by grind,Z,p⟩
   ·rw[I l L]at z;exact .inl (.inr ⟨l,v,by grind,c,q4 t hz,z,p⟩)
   ·simp[hot]at t
 refine⟨⟨⟨G.below.os.trans h.below.os,G.below.tape.trans h.below.tape,G.below.output.trans h.below.output,Du h.below.size G.below.size,fun k hk' hx=> ?_⟩,h.hN,fun l a o=> ?_,?_,?_,?_,h.gl.keep hk⟩,hk,Y,gb⟩
 ·refine(H k (Qbg hk' h.below.size) fun q=> ?_).trans (h.below.block k hk' hx);rcases aIO k q with q | q
  ·omega
  ·exact hx q
 ·rcases y l a o with⟨i,x,c,rfl,rfl⟩ | ⟨c,L,q3,q4⟩ | ⟨hz,hlv,d,q,rfl⟩
  ·obtain⟨v,Z,hok⟩:=G.bY i x c;refine⟨v,gb i (by rw[c];rfl) v Z,hok.ren (fun A hl' u R=>gb A (hrefs i x c A hl') u R) (fun hd=>Y (hfz i x c hd)) (fun t b hbv=> ?_)⟩;rcases(left i x v b c t Z hbv).2 with q | q
   ·exact .inl (Du h.below.size q)
   grind
  ·obtain⟨v,O,hok⟩:=h.bY l a q3;refine⟨v,by grind,hok.keep hk CP fun t b hbv=> ?_⟩;have J:hot (blk l)=true:=by grind
   exact H b (h.mine J O hbv).1 (aJD l v b J c O hbv)
  ·have hq:=abJ q;obtain⟨bkq,hbq,_⟩:=iM hq;obtain⟨v,O,_⟩:=h.bY l _ hbq;refine⟨v,CP _ _ O,?_⟩;have hd0:bW S (fun b=>aS N blk g b/\dE v≠some b) w d v:=ajM hS h q O (fun b U=>U.1) (fun b U hb'=>hb'.2 U);refine hd0.keep ⟨G.below.size,fun b V W=>⟨fun hb'=> ?_,H b V fun hx=> ?_⟩⟩
   ·
    have hmem:=Y hz b hb';by_cases hvb:dE v=some b
    ·rcases hmem with(K | ⟨A,M,r1,r2,r3,r4,r5⟩) | ⟨i,M,r1,r2,r3⟩
     ·exact h.agY hq O hvb K
     ·have:=h.sep l A v M b hq r1 O r4 hvb r5
      grind
     ·obtain⟨a,B,t⟩:=iM r1
      grind
    ·exact W ⟨by
      rcases hmem with(K | ⟨A,M,r1,r2,r3,r4,r5⟩) | ⟨i,M,r1,r2,r3⟩
      ·exact .inl K
      ·exact .inr ⟨A,M,r1,r4,r5⟩
      ·obtain⟨a,B,t⟩:=iM r1
       grind,hvb⟩
   grind
 ·intro l A v M b s z p C h5 h6;obtain⟨a,B,t⟩:=iM s;obtain⟨bk',hbk',T⟩:=iM z;rcases y l a B with⟨i,x,c,rfl,rfl⟩ | ⟨c,L,q3,q4⟩ | ⟨_,_,d,_,rfl⟩
  ·obtain⟨v0,Z,Q⟩:=ac8 i x c;rw[p]at Q;injection Q with Q
   subst Q;rw[ac9]at t;rcases y A bk' hbk' with⟨i',akn,P,rfl,rfl⟩ | ⟨P,q2',q3',q4'⟩ | ⟨_,_,d,_,rfl⟩
   ·obtain⟨v0',e1',E⟩:=ac8 i' akn P;rw[C]at E;injection E with E
    subst E;rw[ac9]at T;rw[G.sep i i' v M b dm dm Z e1' h5 h6]
   ·rw[I A q2']at C;have J:hot (blk A)=true:=by grind
    rcases(left i x v b c t Z h5).2 with q | q
    ·have:=(h.mine J C h6).1;omega
    grind
   ·simp[hot]at T
  ·rw[I l L]at p;have J:hot (blk l)=true:=by grind
   rcases y A bk' hbk' with⟨i',akn,P,rfl,rfl⟩ | ⟨P,q2',q3',q4'⟩ | ⟨_,_,d,_,rfl⟩
   ·obtain⟨v0',e1',E⟩:=ac8 i' akn P;rw[C]at E;injection E with E
    subst E;rw[ac9]at T;rcases(left i' akn M b P T e1' h6).2 with q | q
    ·have:=(h.mine J p h5).1;omega
    grind
   ·rw[I A q2']at C;exact h.sep l A v M b J dm p C h5 h6
   ·simp[hot]at T
  ·simp[hot]at t
 ·intro n u F;unfold xx at F;split at F
  ·rename_i u' hu';exact .inl (h.al n u' hu')
  grind
 ·intro n u F;unfold xx at F;split at F
  ·rename_i u' hu';injection F with F;subst F;exact h.refs n _ hu'
  ·split at F
   ·exact G.refs _ _ F
   ·cases F
end
end Go.Vc
namespace Go.Vc
open Go.RowKit
section
variable {D:Type}{P:Program}{S:Sh D}{T:TypeId->Option Ty}{Γ:FuncId->Option (Ct D)}{M M' N:Nat->Prop}{w w':World}{w0:Bs}{g g':Nat->Option Value}{blk blk':Nat->Option (Bk D)}{al:Nat->Prop}
 {a:Act} {o:Oper} {K:Act->World->Prop} {Q:Exit->Act->World->Prop} {slot:Nat->Sl D} {out:Out D} {fr:Nat} {ids jv:List Nat}
theorem aDg {i n:Nat}(h:n<=i):Nat.blt i n=false:=by
 cases e:Nat.blt i n with
 | false=>rfl
 | true=>
  have:i < n:=Qcp▸e;omega
theorem xP {a:Type}{k:Nat}:∀{b:List (Nat×a)} {f:Nat->a},(∀v,(k,v)∉b)->jc f b k=f k
 | [],_,_=>rfl
 | (d,e)::r,f,h=>by
  show jc (upd f d e) r k=f k
  rw[xP fun v c=>h v (Qax _ c)]
  grind [bM]
theorem Su {c:Type}{k:Nat}{v:c}:∀{d:List (Nat×c)} {f:Nat->c},(k,v)∈d->(∀a,(k,a)∈d->a=v)->jc f d k=v
 | [],_,h,_=>by simp at h
 | (j,l)::r,f,h,e=>by
  show jc (upd f j l) r k=v
  by_cases m:∃a,(k,a)∈r
  ·obtain⟨a,b⟩:=m;have:=e a (Qax _ b);subst this;exact Su b fun g i=>e g (Qax _ i)
  grind [xP,upd_same]
theorem qU:∀{l:List (Nat×Bk D)} {i:Nat} {a:Bk D},jM l i=some a->(i,a)∈l
 | [],i,a,h=>by simp[jM]at h
 | (k,v)::r,i,a,h=>by
  unfold jM at h;split at h
  ·simp_all
  ·exact Qax _ (qU h)
theorem afS:∀{l:List (Nat×Bk D)} {i:Nat} {a:Bk D},nodupB l=true->(i,a)∈l->jM l i=some a
 | [],i,a,_,h=>by simp at h
 | (k,v)::r,i,a,b,h=>by
  simp only[nodupB,iZ,Qbf,List.any_eq_false]at b;unfold jM;rcases yw.1 h with h | h
  ·simp_all
  ·have c:Nat.beq k i=false:=by
    have:=b.1 _ h;simp only[Qc0]at this;cases e:Nat.beq k i with
    | false=>rfl
    | true=>
     simp_all
   rw[c];exact afS b.2 h
theorem aax {l:List (Nat×Bk D)}{i:Nat}(h:i∈l.map (·.1)):(jM l i).isSome=true:=by
 induction l with
 | nil=>simp at h
 | cons p r a=>
  obtain⟨k,v⟩:=p;unfold jM;split
  ·rfl
  ·rename_i b;simp only[Qp,yw]at h;rcases h with rfl | h
   ·simp at b
   ·exact a h
theorem Hw {k:Nat}:∀{l:List (Nat×Bk D)},QV k l=true->∀i a,(i,a)∈l->i < k+64
 | [],_,i,a,h=>by simp at h
 | (j,v)::r,b,i,a,h=>by
  simp only[QV,iZ]at b;rcases yw.1 h with h | h
  ·simp_all
  ·exact Hw b.2 i a h
theorem eF.ren {f:Nat->Nat}:∀{a:List (Sl D)} {b:List Value},eF S M w g a b->(∀l∈a.flatMap Sl.refs,∀u,g l=some u->g' (f l)=some u)->eF S M w g' (a.map (Sl.ren f)) b
 | [],[],_,_=>trivial
 | x::a,v::b,h,c=>⟨h.1.ren (fun l hl=>c l qbu) (fun _ _ d=>d),eF.ren h.2 (fun l hl=>c l dm)⟩
theorem Lf.SG {f h:Nat->Nat}{x:Lf D}(b:∀l∈x.refs,h (f l)=l):(x.ren f).ren h=x:=by
 cases x with
 | ptr l o=>simp only[Lf.ren];rw[b l qbe]
 | own l=>simp only[Lf.ren];rw[b l qbe]
 | opt l i j d=>simp only[Lf.ren];rw[b l qbe]
 | part l i j d f=>simp only[Lf.ren];rw[b l qbe]
 | fn g a=>
  simp only[Lf.ren,Qc5];have:a.map (h∘f)=a:=by
   have:=Qbl (l:=a) (f:=h∘f) (g:=id) fun l c=>b l c
   simp_all
  rw[this]
 | _=>rfl
theorem Bk.SG {f h:Nat->Nat}{b:Bk D}(i:∀l∈b.refs,h (f l)=l):(b.ren f).ren h=b:=by
 cases b with
 | cells cs=>
  simp only[Bk.ren,Qc5];have:cs.map (Lf.ren h∘Lf.ren f)=cs:=by
   have:=Qbl (l:=cs) (f:=Lf.ren h∘Lf.ren f) (g:=id) fun x a=>Lf.SG fun l c=>i l (Qa1.2 ⟨x,a,c⟩)
   simp_all
  rw[this]
 | row e d=>rfl
 | wY d=>rfl
 | iter s p=>rfl
 | map j=>rfl
 | tc t cs=>
  simp only[Bk.ren,Qc5];have:cs.map (Lf.ren h∘Lf.ren f)=cs:=by
   have:=Qbl (l:=cs) (f:=Lf.ren h∘Lf.ren f) (g:=id) fun x a=>Lf.SG fun l c=>i l (Qa1.2 ⟨x,a,c⟩)
   simp_all
  rw[this]
theorem atO {l:Nat}(h:l∈ids):backTo ids fr (g_ ids l)=l:=by
 unfold backTo;have:=qL h;have a:=(Qbc.1 this).1;simp_all
theorem vT {f:FuncId}{ct:Ct D}{args:List (Sl D)}{G:List Value}(hS:ShOk S)(hok:CtOk P S f ct)(h:Hp S w0 N blk g al w)(hfr:∀n,fr<=n->n < fr+64->¬al n)
  (W:∀ids z,zy blk ids=some z->(∀l∈jv,l∉ids)->eF S (aS (Nc N blk g ids jv) (jD (z.map (Bk.ren (g_ ids)))) (gc g ids)) w g args G)
  (hvl:∀l∈jv,∃u,g l=some u) (hvr:∀l∈jv,(∃d,rwD (blk l)=some d)\/hot (blk l)=false\/l∈args.flatMap Sl.refs) (k:MP ct blk fr args jv=some out) (hp:lG out.pre):
  Calls P f G.toArray w fun e w'=>∃v g',e= .returned v/\More g g'/\Keeps (aS N blk g) w (aS N (jc blk out.blks) g') w'/\Hp S w0 N (jc blk out.blks) g' (fun n=>al n\/(fr<=n/\n < fr+64)) w'/\
   out.val.Rel S (aS N (jc blk out.blks) g') w' g' v:=by
 unfold MP at k;generalize aIi:reach blk 3 (mZ [] (args.flatMap Sl.refs))=ids at k;dsimp only at k;have hnd:ids.Nodup:=by grind [oG,EH]
 split at k
 ·cases k
 ·rename_i z K;split at k
  ·rename_i hc;simp only[iZ,Qbf,List.any_eq_false]at hc;obtain⟨⟨c1,X⟩,c3⟩:=hc;have c1:=qM c1;have X:∀c∈z,∀l∈c.refs,l∈ids:=fun c s l o=>qM X l (Qa1.2 ⟨c,s,o⟩)
   have hv:∀l∈jv,l∉ids:=fun l o R=>c3 l o (fC.2 R)
   split at k
   ·rename_i p r a b hct;split at k
    ·rename_i Y;simp only[iZ]at Y;obtain⟨⟨⟨⟨⟨k1,k2⟩,k3⟩,k4⟩,k5⟩,k6⟩:=Y;have k6:∀i∈b,i < ids.length/\i∉a.map (·.1):=fun i E=>by
      have:=Qb.1 k6 i E;simp only[iZ,Qbf]at this;refine⟨by simp_all,fun R=> ?_⟩;rw[fC.2 R]at this;simp at this
     have hlen:(z.map (Bk.ren (g_ ids))).length=ids.length:=by rw[Qbx];exact(oC K).1
     have L:∀i,i∉b->yf a b (z.map (Bk.ren (g_ ids))) i=jM a i:=fun i E=>by
      unfold yf
      grind [fC]
     have M:∀i,i∈b->yf a b (z.map (Bk.ren (g_ ids))) i=(z.map (Bk.ren (g_ ids)))[i]? :=fun i E=>by
      unfold yf;have:jM a i=none:=by
       cases H:jM a i with
       | none=>rfl
       | some c=>exact absurd (QH.2 ⟨_,qU H,rfl⟩) (k6 i E).2
      rw[this,fC.2 E];rfl
     have U:∀i,i∈a.map (·.1)++b->(yf a b (z.map (Bk.ren (g_ ids))) i).isSome=true:=fun i E=>by
      grind [aax]
     injection k with k
     have hpre:lG p:=by grind
     have o:=h.lend hnd K X hv (jv:=jv);have hrel:=(W ids z K hv).ren (g':=gc g ids) (f:=g_ ids) (fun l o u hu=>by rw[acm (c1 l o)];exact hu);refine(hok.calls _ _ _ w G _ _ p r a b o hrel hct hpre).mono ?_;rintro e w' ⟨v,gc',rfl,R,hc',hr⟩;have glt:∀l u,g l=some u->¬(fr<=l/\l < fr+64):=fun l u o hle=>hfr l hle.1 hle.2 (h.al l u o)
     have blt:∀l c,blk l=some c->¬(fr<=l/\l < fr+64):=fun l c o=>by obtain⟨u,hu,_⟩:=h.bY l c o;grind
     have aIv:∀l∈ids,¬(fr<=l/\l < fr+64):=fun l o=>by
      obtain⟨c,s,_⟩:=(oC K).2 _ l (qL o)
      grind
     let F:Bool:=r.lJ || a.any (fun q=>q.2.lJ) || b.any (fun i=>aw1 (z.map (Bk.ren (g_ ids))) i)
     have inA:∀l x,(l,x)∈((ids.filter fun l=> !rP (g_ ids l) b).map fun l=>(l,(jM a (g_ ids l)).map (Bk.ren (backTo ids fr))))->l∈ids/\g_ ids l∉b/\x=(jM a (g_ ids l)).map (Bk.ren (backTo ids fr)):=by
      grind [fC]
     have inB:∀l x,(l,x)∈((a.filter fun q=> !Nat.blt q.1 ids.length).map fun q=>(backTo ids fr q.1,some (q.2.ren (backTo ids fr))))->∃i c,(i,c)∈a/\ids.length<=i/\i < ids.length+64/\l=fr+(i - ids.length)/\x=some (c.ren (backTo ids fr)):=by
      intro l x m;obtain⟨⟨i,c⟩,Y,he⟩:=QH.1 m;obtain⟨V,O⟩:=Qbb.1 Y;injection he with e1 e2
      have O:¬i < ids.length:=fun hlt=>by
       rw[show Nat.blt i ids.length=true from Qcp▸hlt]at O;simp at O
      refine⟨i,c,V,by omega,Hw k1 i c V,?_,e2.symm⟩;rw[<-e1];simp only[backTo]
      grind
     have inC:∀l x,(l,x)∈(if F then jv.filterMap (jY blk)else([]:List (Nat×Option (Bk D))))->F=true/\l∈jv/\∃d,rwD (blk l)=some d/\x=some (.wY d):=by
      intro l x m;by_cases Z:F=true
      ·rw[vJ Z]at m;obtain⟨l',hl',he⟩:=Qc6.1 m;unfold jY at he
       grind
      grind
     have T:out.blks=((ids.filter fun l=> !rP (g_ ids l) b).map fun l=>(l,(jM a (g_ ids l)).map (Bk.ren (backTo ids fr))))++(a.filter fun q=> !Nat.blt q.1 ids.length).map (fun q=>(backTo ids fr q.1,some (q.2.ren (backTo ids fr))))++
      (if F then jv.filterMap (jY blk)else[]):=by
      rw[<-k]
     have t:∀l x,(l,x)∈out.blks->(l∈ids/\g_ ids l∉b/\x=(jM a (g_ ids l)).map (Bk.ren (backTo ids fr)))\/(∃i c,(i,c)∈a/\ids.length<=i/\i < ids.length+64/\l=fr+(i - ids.length)/\x=some (c.ren (backTo ids fr)))\/(F=true/\l∈jv/\∃d,rwD (blk l)=some d/\x=some (.wY d)):=by
      intro l x m;rw[T]at m;rcases vO.1 m with m | m
      ·rcases vO.1 m with m | m
       ·grind
       ·exact .inr (.inl (inB l x m))
      grind
     have hB:Back blk (jc blk out.blks) (yf a b (z.map (Bk.ren (g_ ids)))) ids jv fr F:=by
      refine⟨fun l o=> ?_,fun j hj=> ?_,fun l o Z=> ?_,fun l h1 h2 h3=> ?_⟩
      ·by_cases y:g_ ids l∈b
       ·obtain⟨c,C,B⟩:=(oC K).2 _ l (qL o);rw[M _ y,Qb1,B];simp only[Qbm];rw[Bk.SG fun r hr=>atO (X c (Qbz B) r hr),<-C];refine xP fun x m=> ?_;rcases t l x m with⟨_,q,_⟩ | ⟨i,c,C,B,J,I,_⟩ | ⟨_,q,_⟩
        ·exact q y
        ·exact absurd (show fr<=l/\l < fr+64 by omega) (aIv l o)
        grind
       rw[L _ y];refine Su (by
        grind [fC]) fun x m=> ?_
       rcases t l x m with⟨_,_,q⟩ | ⟨i,c,C,B,J,I,_⟩ | ⟨_,q,_⟩
       ·exact q
       ·exact absurd (show fr<=l/\l < fr+64 by omega) (aIv l o)
       grind
      ·rw[L _ fun y=>by grind];cases H:jM a (ids.length+j)with
       | none=>
        rw[xP]
        ·cases hb:blk (fr+j)with
         | none=>rfl
         | some c=>grind
        ·intro x m;rcases t _ x m with⟨q,_⟩ | ⟨i,c,C,B,J,I,_⟩ | ⟨_,_,d,q,_⟩
         ·grind
         ·grind
         grind
       | some c=>
        refine Su (by
         rw[T];refine Qcv _ (Qb9 _ (QH.2 ⟨(ids.length+j,c),Qbb.2 ⟨qU H,by rw[aDg (Nat.le_add_right _ _)];rfl⟩,?_⟩));simp only[backTo,Qbm];rw[uU (by simp[Qcp])];congr 1;omega) fun x m=> ?_
        rcases t _ x m with⟨q,_⟩ | ⟨i,Q,C,B,J,I,q5⟩ | ⟨_,_,d,q,_⟩
        ·grind
        ·have:i=ids.length+j:=by omega
         subst this;rw[afS k2 C]at H
         grind
        grind
      ·by_cases A:∃d,rwD (blk l)=some d
       ·obtain⟨d,A⟩:=A;obtain⟨bkr,hbr,_⟩:=iM (abJ A);refine .inl ⟨d,A,Su (by
         rw[T,vJ Z];exact Qb9 _ (Qc6.2 ⟨l,o,by unfold jY;rw[A]⟩)) fun x m=> ?_⟩
        rcases t _ x m with⟨q,_⟩ | ⟨i,Q,C,B,J,I,q5⟩ | ⟨_,_,d',q,q'⟩
        ·grind
        ·grind
        grind
       ·have hnot:hot (blk l)=false:=by
         grind
        by_cases hfl:fr<=l/\l < fr+64
        ·grind
        ·refine .inr ⟨hnot,xP fun x m=> ?_⟩;rcases t _ x m with⟨q,_⟩ | ⟨i,Q,C,B,J,I,q5⟩ | ⟨_,_,d',q,q'⟩
         ·exact hv l o q
         ·omega
         grind
      ·refine xP fun x m=> ?_;rcases t _ x m with⟨q,_⟩ | ⟨i,Q,C,B,J,I,q5⟩ | ⟨Z,q,_⟩
       ·exact h1 q
       ·omega
       grind
     obtain⟨g1,g2,g3,g4⟩:=h.back hS hfr hnd K hv R hc' hB (fun i E=>by
       by_cases y:i∈b
       ·grind
       rw[L i y]at E;obtain⟨c,s⟩:=Qbj.1 E;exact Hw k1 i c (qU s))
      (fun i c s l o=>by
       by_cases y:i∈b
       ·rw[M i y]at s;exact U l (qM k5 l (Qa1.2 ⟨i,y,by unfold ath;grind⟩))
       ·rw[L i y]at s;exact U l (qM k3 l (Qa1.2 ⟨(i,c),qU s,o⟩)))
      (fun i c s hd=>by
       simp only[F,Qbi,Qbs];by_cases y:i∈b
       ·rw[M i y]at s;exact .inr ⟨i,y,by unfold aw1;grind⟩
       ·rw[L i y]at s;exact .inl (.inr ⟨(i,c),qU s,hd⟩))
     refine⟨v,_,rfl,CP,g2,g1,?_⟩;have:out.val=r.ren (backTo ids fr):=by rw[<-k]
     rw[this];exact hr.ren (fun l o u hu=>g4 l (U l (qM k4 l o)) u hu) (fun hd=>g3 (by simp[F,hd]))
    ·cases k
   ·cases k
  ·cases k
end
end Go.Vc

/- Own engine: Veq. -/
import Derived.Test.YtgdmjfkdbfafjaaGreatDoorEng5
import Derived.Lib.AppendZeros
set_option linter.unusedVariables false
set_option linter.unusedSimpArgs false
namespace Go.Vc
open Go.RowKit
structure aza (P:Program)(f t ti:Nat):Prop where
 no:∀w:World,Calls P f #[.slice none 0 0, .int .i64 0] w fun e w'=>e= .returned (.slice none 0 0)/\w'=w
 so:∀(n h cc:Nat) (w w1:World),0 < n->n<=cc->n<=9223372036854775807->(∀ty,(Builtin.append_ #[t,ti] ty #[.slice none 0 0, .int .i64 n]).run P w= .ok (.slice (some ⟨h,0,none⟩) n cc) w1)->
  Calls P f #[.slice none 0 0, .int .i64 n] w fun e w'=>e= .returned (.slice (some ⟨h,0,none⟩) 0 cc)/\w'=w1
section
variable {D:Type}{P:Program}{S:Sh D}
def V8 (S:Sh D)(e s bytes:Nat)(a:List (Lf D)):Ct D:=fun args b=>
 match args,b with
 | [.one (.lf (.val (.slice none 0 0))), .one (.lf (.int k n))],[]=>
  (match S.zero e 0 a with
  | some d=>if Nat.beq (S.size d) s && ZA k .i64 then some (some (dp (0<=n/\n*bytes<=281474976710656/\n<=1099511627776)), .one (.lf (.own 0)),[(0, .row e d)],[])else none
  | none=>none)
 | _,_=>none
theorem PT {f t ti e s bytes:Nat}{kn:IntKind}{inf:TypeInfo}{z:Value}{zs:List (Lf D)}(J:jE S)(B:∀(args:Array Value) (w:World),(callFunc f args).run P w= .ok (.enter f args) w)(H:aza P f t ti)(hs0:0 < s)(V:P.underlying t=some (.slice e))(U:P.underlying ti=some (.int kn))
  (R:P.info? e=some inf) (hz:inf.zero=some z) (his:inf.size=s) (hib:inf.bytes=bytes) (T:z.cells.size=s):gZ P S f (V8 S e s bytes zs):=by
 refine⟨B,?_⟩;intro X N g w args o_ dW p r post keep h C a hp;unfold V8 at a;split at a
 ·rename_i k n;split at a
  ·rename_i d K;split at a
   ·rename_i M;simp only[kW]at M;have c1:=Qa M.1;have c2:k= .i64:=by simpa[ZA]using M.2
    subst c2;injection a with a
    injection a with q1 G
    injection G with G L
    injection L with L Z
    subst q1 G L Z;obtain⟨p1,p2,p3⟩:=hp;obtain⟨o,z2,z3⟩:=J.zero _ _ _ _ K;obtain⟨m,rfl⟩:∃m:Nat,n=(m:Int):=⟨n.toNat,by omega⟩;match args,C with
    | [v1,vi],⟨A,x,_⟩=>
     have A:v1= .slice none 0 0:=A;have x:vi= .int .i64 (m:Int):=x;subst A x;have y:upd (mQ ([]:List (Bk D))) 0 (some (Bk.row e d))=yE [(0,Bk.row e d)] [] []:=by
      funext q;match q with
      | 0=>rfl
      | q+1=>rfl
     by_cases Y:m=0
     ·subst Y;refine(H.no w).mono fun ex w' O=> ?_;obtain⟨rfl,rfl⟩:=O;obtain⟨u,F,I⟩:=h.add (l:=0) (bk:= .row e d) (v:= .slice none 0 0) ⟨rfl,rfl,rfl,nO _,fun _ _=>rfl⟩ qb (fun b c=>by simp[fJ]at c)
       (fun M' E _=>⟨⟨fun b c=>by simp[fJ]at c,by rw[o];omega,J.afi _ _ _ _ K⟩,[],⟨by rw[o];simp, .inl ⟨rfl,o⟩⟩,fun i j hi hj=>by omega⟩)
      rw[y]at u F;exact⟨_,_,rfl,I,u.weaken fun _ _=>trivial,upd_same _ _ _⟩
     ·have c:m*inf.bytes<=281474976710656:=by
       grind
      have Q:=grownCap_ge w m 0 e;have W:grownCap w m 0 e<=maxLen:=grownCap_le_maxLen w m 0 e (by simp only[maxLen];omega);refine(H.so m _ _ w _ au Q au fun ty=>Lib.run_append_nil_zeros (P:=P) w t ti ty e inf z .i64 kn V U R hz m au au au c).mono fun ex w' O=> ?_;obtain⟨rfl,rfl⟩:=O;have hB:Below w.heap.size w (w.drew.alloc (.cells (Builtin.zeroCells z.cells m++Builtin.zeroCells z.cells (grownCap w m 0 e - m)) e)):=⟨rfl,rfl,rfl,by simp,fun k E=>Go.heap_alloc_old w.drew _ E⟩;obtain⟨u,F,I⟩:=h.add (l:=0) (bk:= .row e d) (v:= .slice (some ⟨w.heap.size,0,none⟩) 0 (grownCap w m 0 e)) hB qb (fun b c=>by simp[fJ]at c;omega)
       (fun M' E _=>by
        refine⟨⟨fun b c=> .inl ?_,by rw[o];omega,J.afi _ _ _ _ K⟩,[],⟨by rw[o];simp, .inr ⟨w.heap.size,grownCap w m 0 e,_,by rw[o],ve _,heap_alloc_new w.drew _,by omega,W,?_,by rw[o];simp⟩⟩,fun i j hi hj=>by omega⟩
        ·simp only[fJ,P7]at c
         grind
        ·simp only[Qc9,size_zeroCells,T,<-Qbl,c1]
         grind)
      rw[y]at u F;exact⟨_,_,rfl,I,u.weaken fun _ _=>trivial,upd_same _ _ _⟩
   ·cases a
  ·cases a
 ·cases a
end
end Go.Vc

/- Own engine: Veq. -/
import Derived.Test.YtjojefbphdmnjaaGreatDoorEng5
import Derived.Lib.AppendZeros
set_option linter.unusedVariables false
set_option linter.unusedSimpArgs false
namespace Go.Vc
open Go.RowKit
structure auO (P:Program)(f t ti:Nat):Prop where
 no:∀w:World,Calls P f #[.slice none 0 0, .int .i64 0] w fun e w'=>e= .returned (.slice none 0 0)/\w'=w
 so:∀(n h cc:Nat) (w w1:World),0 < n->n<=cc->n<=9223372036854775807->(∀ty,(Builtin.append_ #[t,ti] ty #[.slice none 0 0, .int .i64 n]).run P w= .ok (.slice (some ⟨h,0,none⟩) n cc) w1)->
  Calls P f #[.slice none 0 0, .int .i64 n] w fun e w'=>e= .returned (.slice (some ⟨h,0,none⟩) 0 cc)/\w'=w1
section
variable {D:Type}{P:Program}{S:Sh D}
def SA (S:Sh D)(e s bytes:Nat)(b:List (Lf D)):Ct D:=fun args a=>
 match args,a with
 | [.one (.lf (.val (.slice none 0 0))), .one (.lf (.int k n))],[]=>
  (match S.zero e 0 b with
  | some d=>if Nat.beq (S.size d) s && Yl k .i64 then some (some (dp (0<=n/\n*bytes<=281474976710656/\n<=1099511627776)), .one (.lf (.own 0)),[(0, .row e d)],[])else none
  | none=>none)
 | _,_=>none
theorem JJ {f t ti e s bytes:Nat}{kn:IntKind}{inf:TypeInfo}{z:Value}{Z:List (Lf D)}(J:ShOk S)(B:∀(args:Array Value) (w:World),(callFunc f args).run P w= .ok (.enter f args) w)(H:auO P f t ti)(hs0:0 < s)(U:P.underlying t=some (.slice e))(Q:P.underlying ti=some (.int kn))
  (W:P.info? e=some inf) (hz:inf.zero=some z) (his:inf.size=s) (hib:inf.bytes=bytes) (T:z.cells.size=s):CtOk P S f (SA S e s bytes Z):=by
 refine⟨B,?_⟩;intro X N g w args nC bY p r post keep h C a hp;unfold SA at a;split at a
 ·rename_i k n;split at a
  ·rename_i d E;split at a
   ·rename_i G;simp only[iW]at G;have c1:=Qa G.1;have c2:k= .i64:=by simpa[Yl]using G.2
    subst c2;injection a with a
    injection a with q1 K
    injection K with K F
    injection F with F q4
    subst q1 K F q4;obtain⟨p1,p2,p3⟩:=hp;obtain⟨o,z2,z3⟩:=J.zero _ _ _ _ E;obtain⟨m,rfl⟩:∃m:Nat,n=(m:Int):=⟨n.toNat,by omega⟩;match args,C with
    | [v1,Y],⟨y,A,_⟩=>
     have y:v1= .slice none 0 0:=y;have A:Y= .int .i64 (m:Int):=A;subst y A;have x:upd (jC ([]:List (Bk D))) 0 (some (Bk.row e d))=yC [(0,Bk.row e d)] [] []:=by
      funext q;match q with
      | 0=>rfl
      | q+1=>rfl
     by_cases h0:m=0
     ·subst h0;refine(H.no w).mono fun ex w' L=> ?_;obtain⟨rfl,rfl⟩:=L;obtain⟨u,I,M⟩:=h.add (l:=0) (bk:= .row e d) (v:= .slice none 0 0) ⟨rfl,rfl,rfl,lH _,fun _ _=>rfl⟩ oG (fun b c=>by simp[dB]at c)
       (fun M' O _=>⟨⟨fun b c=>by simp[dB]at c,by rw[o];omega,J.aaq _ _ _ _ E⟩,[],⟨by rw[o];simp, .inl ⟨rfl,o⟩⟩,fun i j hi hj=>by omega⟩)
      rw[x]at u I;exact⟨_,_,rfl,M,u.weaken fun _ _=>trivial,upd_same _ _ _⟩
     ·have c:m*inf.bytes<=281474976710656:=by
       grind
      have V:=grownCap_ge w m 0 e;have R:grownCap w m 0 e<=maxLen:=grownCap_le_maxLen w m 0 e (by simp only[maxLen];omega);refine(H.so m _ _ w _ ah V ah fun ty=>Lib.run_append_nil_zeros (P:=P) w t ti ty e inf z .i64 kn U Q W hz m ah ah ah c).mono fun ex w' L=> ?_;obtain⟨rfl,rfl⟩:=L;have hB:Below w.heap.size w (w.drew.alloc (.cells (Builtin.zeroCells z.cells m++Builtin.zeroCells z.cells (grownCap w m 0 e - m)) e)):=⟨rfl,rfl,rfl,by simp,fun k O=>Go.heap_alloc_old w.drew _ O⟩;obtain⟨u,I,M⟩:=h.add (l:=0) (bk:= .row e d) (v:= .slice (some ⟨w.heap.size,0,none⟩) 0 (grownCap w m 0 e)) hB oG (fun b c=>by simp[dB]at c;omega)
       (fun M' O _=>by
        refine⟨⟨fun b c=> .inl ?_,by rw[o];omega,J.aaq _ _ _ _ E⟩,[],⟨by rw[o];simp, .inr ⟨w.heap.size,grownCap w m 0 e,_,by rw[o],qR _,heap_alloc_new w.drew _,by omega,R,?_,by rw[o];simp⟩⟩,fun i j hi hj=>by omega⟩
        ·simp only[dB,Og]at c
         grind
        ·simp only[Array.size_append,size_zeroCells,T,<-Qdj,c1]
         grind)
      rw[x]at u I;exact⟨_,_,rfl,M,u.weaken fun _ _=>trivial,upd_same _ _ _⟩
   ·cases a
  ·cases a
 ·cases a
end
end Go.Vc

/- Own engine: Veq. -/
import Derived.Test.YtebmficbjhcohaaGreatDoorEng5
import Derived.Lib.AppendZeros
set_option linter.unusedVariables false
set_option linter.unusedSimpArgs false
namespace Go.Vc
open Go.RowKit
structure avj (P:Program)(f t ti:Nat):Prop where
 no:∀w:World,Calls P f #[.slice none 0 0, .int .i64 0] w fun e w'=>e= .returned (.slice none 0 0)/\w'=w
 so:∀(n h cc:Nat) (w w1:World),0 < n->n<=cc->n<=9223372036854775807->(∀ty,(Builtin.append_ #[t,ti] ty #[.slice none 0 0, .int .i64 n]).run P w= .ok (.slice (some ⟨h,0,none⟩) n cc) w1)->
  Calls P f #[.slice none 0 0, .int .i64 n] w fun e w'=>e= .returned (.slice (some ⟨h,0,none⟩) 0 cc)/\w'=w1
section
variable {D:Type}{P:Program}{S:Sh D}
def U3 (S:Sh D)(e s bytes:Nat)(b:List (Lf D)):Ct D:=fun args a=>
 match args,a with
 | [.one (.lf (.val (.slice none 0 0))), .one (.lf (.int k n))],[]=>
  (match S.zero e 0 b with
  | some d=>if Nat.beq (S.size d) s && kEq k .i64 then some (some (dp (0<=n/\n*bytes<=281474976710656/\n<=1099511627776)), .one (.lf (.own 0)),[(0, .row e d)],[])else none
  | none=>none)
 | _,_=>none
theorem LG {f t ti e s bytes:Nat}{kn:IntKind}{inf:TypeInfo}{z:Value}{Z:List (Lf D)}(F:iL S)(A:∀(args:Array Value) (w:World),(callFunc f args).run P w= .ok (.enter f args) w)(H:avj P f t ti)(hs0:0 < s)(V:P.underlying t=some (.slice e))(Y:P.underlying ti=some (.int kn))
  (Q:P.info? e=some inf) (hz:inf.zero=some z) (his:inf.size=s) (W:inf.bytes=bytes) (R:z.cells.size=s):dJ P S f (U3 S e s bytes Z):=by
 refine⟨A,?_⟩;intro X N g w args lq dn p r post keep h C a hp;unfold U3 at a;split at a
 ·rename_i k n;split at a
  ·rename_i d O;split at a
   ·rename_i L;simp only[iT]at L;have c1:=Qa L.1;have c2:k= .i64:=by simpa[kEq]using L.2
    subst c2;injection a with a
    injection a with q1 K
    injection K with K M
    injection M with M q4
    subst q1 K M q4;obtain⟨p1,p2,p3⟩:=hp;obtain⟨o,z2,z3⟩:=F.zero _ _ _ _ O;obtain⟨m,rfl⟩:∃m:Nat,n=(m:Int):=⟨n.toNat,by omega⟩;match args,C with
    | [v1,vi],⟨B,x,_⟩=>
     have B:v1= .slice none 0 0:=B;have x:vi= .int .i64 (m:Int):=x;subst B x;have u:upd (jT ([]:List (Bk D))) 0 (some (Bk.row e d))=rC [(0,Bk.row e d)] [] []:=by
      funext q;match q with
      | 0=>rfl
      | q+1=>simp[upd,jT,rC,jM,qK]
     by_cases h0:m=0
     ·subst h0;refine(H.no w).mono fun ex w' I=> ?_;obtain⟨rfl,rfl⟩:=I;obtain⟨y,G,E⟩:=h.add (l:=0) (bk:= .row e d) (v:= .slice none 0 0) ⟨rfl,rfl,rfl,oC _,fun _ _=>rfl⟩ oI (fun b c=>by simp[eP]at c)
       (fun M' J _=>⟨⟨fun b c=>by simp[eP]at c,by rw[o];omega,F.Wx _ _ _ _ O⟩,[],⟨by rw[o];simp, .inl ⟨rfl,o⟩⟩,fun i j hi hj=>by omega⟩)
      rw[u]at y G;exact⟨_,_,rfl,E,y.weaken fun _ _=>trivial,upd_same _ _ _⟩
     ·have c:m*inf.bytes<=281474976710656:=by
       rw[W];have:((m*bytes:Nat):Int)<=281474976710656:=by rw[Int.natCast_mul];exact p2
       omega
      have U:=grownCap_ge w m 0 e;have T:grownCap w m 0 e<=maxLen:=grownCap_le_maxLen w m 0 e (by simp only[maxLen];omega);refine(H.so m _ _ w _ au U au fun ty=>Lib.run_append_nil_zeros (P:=P) w t ti ty e inf z .i64 kn V Y Q hz m au au au c).mono fun ex w' I=> ?_;obtain⟨rfl,rfl⟩:=I;have hB:Below w.heap.size w (w.drew.alloc (.cells (Builtin.zeroCells z.cells m++Builtin.zeroCells z.cells (grownCap w m 0 e - m)) e)):=⟨rfl,rfl,rfl,by simp,fun k J=>Go.heap_alloc_old w.drew _ J⟩;obtain⟨y,G,E⟩:=h.add (l:=0) (bk:= .row e d) (v:= .slice (some ⟨w.heap.size,0,none⟩) 0 (grownCap w m 0 e)) hB oI (fun b c=>by simp[eP]at c;omega)
       (fun M' J _=>by
        refine⟨⟨fun b c=> .inl ?_,by rw[o];omega,F.Wx _ _ _ _ O⟩,[],⟨by rw[o];simp, .inr ⟨w.heap.size,grownCap w m 0 e,_,by rw[o],vP _,heap_alloc_new w.drew _,by rw[o];exact vP _,T,?_,by rw[o];simp⟩⟩,fun i j hi hj=>by omega⟩
        ·simp only[eP,Nj]at c;have:=h.below.size;show w.heap.size<=b
         omega
        ·simp only[Array.size_append,size_zeroCells,R,<-Qcj,c1];congr 1;omega)
      rw[u]at y G;exact⟨_,_,rfl,E,y.weaken fun _ _=>trivial,upd_same _ _ _⟩
   ·cases a
  ·cases a
 ·cases a
end
end Go.Vc

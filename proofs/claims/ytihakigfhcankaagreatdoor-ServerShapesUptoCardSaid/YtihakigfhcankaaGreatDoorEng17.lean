/- Own engine: Veq. -/
import Derived.Test.YtihakigfhcankaaGreatDoorEng5
import Derived.Lib.AppendZeros
set_option linter.unusedVariables false
set_option linter.unusedSimpArgs false
namespace Go.Vc
open Go.RowKit
structure aui (P:Program)(f t ti:Nat):Prop where
 no:∀w:World,Calls P f #[.slice none 0 0, .int .i64 0] w fun e w'=>e= .returned (.slice none 0 0)/\w'=w
 so:∀(n h cc:Nat) (w w1:World),0 < n->n<=cc->n<=9223372036854775807->(∀ty,(Builtin.append_ #[t,ti] ty #[.slice none 0 0, .int .i64 n]).run P w= .ok (.slice (some ⟨h,0,none⟩) n cc) w1)->
  Calls P f #[.slice none 0 0, .int .i64 n] w fun e w'=>e= .returned (.slice (some ⟨h,0,none⟩) 0 cc)/\w'=w1
section
variable {D:Type}{P:Program}{S:Sh D}
def UN (S:Sh D)(e s bytes:Nat)(zs:List (Lf D)):Ct D:=fun args dH=>
 match args,dH with
 | [.one (.lf (.val (.slice none 0 0))), .one (.lf (.int k n))],[]=>
  (match S.zero e 0 zs with
  | some d=>if Nat.beq (S.size d) s && WB k .i64 then some (some (dp (0<=n/\n*bytes<=281474976710656/\n<=1099511627776)), .one (.lf (.own 0)),[(0, .row e d)],[])else none
  | none=>none)
 | _,_=>none
theorem LC {f t ti e s bytes:Nat}{kn:IntKind}{inf:TypeInfo}{z:Value}{zs:List (Lf D)}(hS:jd S)(henter:∀(args:Array Value) (w:World),(callFunc f args).run P w= .ok (.enter f args) w)(H:aui P f t ti)(hs0:0 < s)(hsl:P.underlying t=some (.slice e))(hti:P.underlying ti=some (.int kn))
  (ae_:P.info? e=some inf) (hz:inf.zero=some z) (his:inf.size=s) (hib:inf.bytes=bytes) (hzs:z.cells.size=s):fV P S f (UN S e s bytes zs):=by
 refine⟨henter,?_⟩;intro X N g w args nT dH p r post keep h hargs hct hp;unfold UN at hct;split at hct
 ·rename_i k n;split at hct
  ·rename_i d hd;split at hct
   ·rename_i hc;simp only[jY]at hc;have c1:=Qa hc.1;have c2:k= .i64:=by simpa[WB]using hc.2
    subst c2;injection hct with hct
    injection hct with q1 q2
    injection q2 with q2 q3
    injection q3 with q3 q4
    subst q1 q2 q3 q4;obtain⟨p1,p2,p3⟩:=hp;obtain⟨z1,z2,z3⟩:=hS.zero _ _ _ _ hd;obtain⟨m,rfl⟩:∃m:Nat,n=(m:Int):=⟨n.toNat,by omega⟩;match args,hargs with
    | [v1,vi],⟨hv1,hvi,_⟩=>
     have hv1:v1= .slice none 0 0:=hv1;have hvi:vi= .int .i64 (m:Int):=hvi;subst hv1 hvi;have htab:upd (kQ ([]:List (Bk D))) 0 (some (Bk.row e d))=uO [(0,Bk.row e d)] [] []:=by
      funext q;match q with
      | 0=>rfl
      | q+1=>simp[upd,kQ,uO,jW,rC]
     by_cases h0:m=0
     ·subst h0;refine(H.no w).mono fun ex w' hr=> ?_;obtain⟨rfl,rfl⟩:=hr;obtain⟨g1,g2,g3⟩:=h.add (l:=0) (bk:= .row e d) (v:= .slice none 0 0) ⟨rfl,rfl,rfl,lU _,fun _ _=>rfl⟩ oJ (fun b hb=>by simp[d_]at hb)
       (fun M' hk _=>⟨⟨fun b hb=>by simp[d_]at hb,by rw[z1];omega,hS.aca _ _ _ _ hd⟩,[],⟨by rw[z1];simp, .inl ⟨rfl,z1⟩⟩,fun i j hi hj=>by omega⟩)
      rw[htab]at g1 g2;exact⟨_,_,rfl,g3,g1.weaken fun _ _=>trivial,upd_same _ _ _⟩
     ·have hb:m*inf.bytes<=281474976710656:=by
       rw[hib];have:((m*bytes:Nat):Int)<=281474976710656:=by rw[Int.natCast_mul];exact p2
       omega
      have hge:=grownCap_ge w m 0 e;have hcm:grownCap w m 0 e<=maxLen:=grownCap_le_maxLen w m 0 e (by simp only[maxLen];omega);refine(H.so m _ _ w _ au hge au fun ty=>Lib.run_append_nil_zeros (P:=P) w t ti ty e inf z .i64 kn hsl hti ae_ hz m au au au hb).mono fun ex w' hr=> ?_;obtain⟨rfl,rfl⟩:=hr;have hB:Below w.heap.size w (w.drew.alloc (.cells (Builtin.zeroCells z.cells m++Builtin.zeroCells z.cells (grownCap w m 0 e - m)) e)):=⟨rfl,rfl,rfl,by simp,fun k hk=>Go.heap_alloc_old w.drew _ hk⟩;obtain⟨g1,g2,g3⟩:=h.add (l:=0) (bk:= .row e d) (v:= .slice (some ⟨w.heap.size,0,none⟩) 0 (grownCap w m 0 e)) hB oJ (fun b hb=>by simp[d_]at hb;omega)
       (fun M' hk _=>by
        refine⟨⟨fun b hb=> .inl ?_,by rw[z1];omega,hS.aca _ _ _ _ hd⟩,[],⟨by rw[z1];simp, .inr ⟨w.heap.size,grownCap w m 0 e,_,by rw[z1],uN _,heap_alloc_new w.drew _,by rw[z1];exact uN _,hcm,?_,by rw[z1];simp⟩⟩,fun i j hi hj=>by omega⟩
        ·simp only[d_,KZ]at hb;have:=h.below.size;show w.heap.size<=b
         omega
        ·simp only[Qdh,size_zeroCells,hzs,<-QX,c1];congr 1;omega)
      rw[htab]at g1 g2;exact⟨_,_,rfl,g3,g1.weaken fun _ _=>trivial,upd_same _ _ _⟩
   ·cases hct
  ·cases hct
 ·cases hct
end
end Go.Vc

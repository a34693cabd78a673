/- Server: the problems of a schema. -/
import Derived.Test.YtenjnekcoapajaaGreatDoorP3
namespace Go.Proofs.YtenjnekcoapajaaGreatDoor
noncomputable section
open Go.RowKit Go.Vc
open Tryz
set_option linter.unusedVariables false
set_option linter.unusedSimpArgs false
set_option maxRecDepth 100000
def okM (m:aG):Prop:=m.Fields.length<=1048576/\m.Reserved.length<=1048576/\m.Gone.length<=1048576/\m.Name.length<=1048576/\∀g∈m.Gone,g.length<=1048576
def okE (e:eu):Prop:=e.Items.length<=1048576/\e.Reserved.length<=1048576/\e.Name.length<=1048576
def okSv (v:bz):Prop:=v.Methods.length<=1048576/\v.Name.length<=1048576
def okS (s:ax):Prop:=s.Messages.length<=150/\s.Enums.length<=150/\s.bK.length<=150/\(∀m∈s.Messages,okM m)/\(∀e∈s.Enums,okE e)/\∀v∈s.bK,okSv v
def inMsg (s:ax)(m:aG)(i:List (Str×Bool)):Pg (List dw):=.cut (fun(b:ak)=> .cut (fun(j:ak)=> .cut (fun(h:ak)=> .ob (h.out.length+2*m.Reserved.length<=68719476736) (aL m.Gone (.each false mg m.Gone [] (fun e f (a:ak)=> .ix e m.Gone.length (.ob (List.length f<=9223372036854775700) (.ob (a.out.length<=68719476736) (rl (dY (EX f) 7 a))))) (fun e (a:ak)=> .ob (a.out.length<=68719476736) (.ob (m.Fields.length<=1048576) (.lt (jR m.Notes 1 a) fun g=> .ob (g.out.length<=68719476736) (.ret (dY (!Az s m i) 19 g).out)))) (IC m.Reserved 1 65535 h)))) (aL m.Fields (.cnt mg 0 (↑m.Fields.length:Int) (fun c (d:ak)=> .ob (d.out.length+10<=68719476736/\0<=c/\c < (↑m.Fields.length:Int)/\m.Fields.length<=1048576) (rl (BV s m c d))) (fun c (d:ak)=> rl d) j))) (.br (decide ((↑m.Fields.length:Int)<=64)) (.ob (b.out.length<=68719476736) (aL m.Reserved (aL m.Gone (rl (dY (decide (max (↑m.Reserved.length:Int) (↑m.Gone.length:Int)<=16)) 3 b))))) (.ob (b.out.length<=68719476736) (rl (dY false 3 b))))) (.ob (List.length m.Name<=4294967296) (.ob (0<=68719476736) (rl (dY (Ve m.Name) 8 (ak.mk m.Name (-1) [])))))
def tH (s:ax)(m:aG)(a:List (Str×Bool)):=(inMsg s m a).val
theorem ZH (s:ax)(m:aG)(n:List (Str×Bool))(h:okM m):gU (inMsg s m n) (fun r=>r.length<=16777216):=
 have y:m.Fields.length<=1048576:=h.1;have A:m.Reserved.length<=1048576:=h.2.1;have C:m.Gone.length<=1048576:=h.2.2.1;have z:m.Name.length<=1048576:=h.2.2.2.1;bg (fun j=>j.out.length<=1) (ah (aj) (ah (aj) (af E_))) (fun j g=>have g:j.out.length<=1:=g;bg (fun l=>l.out.length<=2) (aU (fun _=>ah (aj) (bZ <| bZ <| af E_)) (fun _=>ah (aj) (af E_))) (fun l e=>have e:l.out.length<=2:=e;bg (fun k=>k.out.length<=10485762) (bZ <| rO (fun(a:Int) c=>c.out.length<=2+10*a/\a<=(m.Fields.length:Int)) aj aj aj (fun a c u t o=>have b:c.out.length<=2+10*a/\a<=(m.Fields.length:Int):=o;ah (aj) (af (by(try simp only[Sum.elim_inl,Sum.elim_inr])<;>(first | trivial | omega | (dsimp only;omega) | (refine Du (Ot aj rfl) ?_;omega) | (refine⟨Int.le_trans (Int.ofNat_le.2 (Ot aj rfl)) ?_,?_⟩<;>omega) | (refine Du (Za _ _ _) ?_;first | omega | (dsimp only at*;omega) | (simp only[Qa7]at*;omega)) | (refine Du (abL _ _ _) ?_;first | omega | (dsimp only at*;omega) | (simp only[Qa7]at*;omega)))))) (fun a c _ w b=>have b:c.out.length<=2+10*a/\a<=(m.Fields.length:Int):=b;af dm)) (fun k f=>have f:k.out.length<=10485762:=f;ah (aj) (bZ <| bC (fun(i:Nat) d=>d.out.length<=12582914+1*i) (by first | omega | exact Du (Za _ _ _) qbl | exact Du (alh aj rfl) aj) aj (fun i d x q=>have b:d.out.length<=12582914+1*i:=q;aH aj aj (ah ((by first | omega | (dsimp only at*;omega) | (simp only[Qa7]at*;omega) | exact Du (h.2.2.2.2 _ (getD_mem aj)) dH)) (ah (aj) (af E_)))) (fun d b=>have b:d.out.length<=12582914+1*m.Gone.length:=b;ah (aj) (ah (aj) (au fun B p=>have v:=ahX p;ah (aj) (af E_))))))))
def axF:bi Z:=E1 [DF,U8,aaE,axO,akQ,Rl,aoF] [jS 5 (bD (fun b=>[s0 39, .cells (pid (b 14)) hh3]) adV),jS 11 (bD (fun b=>[s0 55, .cells (pid (b 14)) hh3]) adV),jS 100003 (bD (fun b=>[.cells (pid (b 14)) hh3]) hh4),jS 100004 (bD (fun b=>[.cells (pid (b 14)) hh3]) hh4),jS 100009 (bD (fun b=>[.cells (pid (b 14)) hh3]) hh4),jS 800001 (bD (fun b=>[.cells (pid (b 7)) hh3]) hh4)] aHK agx [] func148 1 (u3 inMsg) (fun a=>okM a.2.1) fun a h=>(ZH a.1 a.2.1 a.2.2 h).1
def enumPr (e:eu):Pg (List dw):=.cut (fun(d:ak)=> .cut (fun(g:ak)=> .cut (fun(o:ak)=> aL e.Items (.each false mg e.Items gQ (fun c b (a:ak)=> .ix c e.Items.length (.cut (fun(f:ak)=> .cut (fun(n:ak)=> .ob (n.out.length<=68719476736) (.ix c e.Items.length (.lt (dY (D6 b.Name) 8 n) fun m=> .ob (m.out.length<=68719476736) (.lt (dY (!ag4 e.Items c) 9 m) fun l=> .ob (l.out.length<=68719476736) (.lt (dY (!xG e.Reserved b.Num) 21 l) fun j=> .ob (j.out.length<=68719476736) (rl (jR b.Notes 4 j))))))) (.br (c==0) (.ob (f.out.length<=68719476736) (rl (dY true 11 f))) (.lt (aQ .i64 (c - 1)) fun h=> .ix h e.Items.length (.ob (f.out.length<=68719476736) (rl (dY (decide ((e.Items.getD h.toNat gQ).Num < b.Num)) 11 f)))))) (.br (decide (0<=b.Num)) (.ob (a.out.length<=68719476736) (rl (dY (decide (b.Num<=2147483647)) 6 (ak.mk a.oZ b.Num a.out)))) (.ob (a.out.length<=68719476736) (rl (dY false 6 (ak.mk a.oZ b.Num a.out))))))) (fun c (a:ak)=> .ob (a.out.length+2*e.Reserved.length<=68719476736) (.lt (IC e.Reserved 0 2147483647 (ak.mk a.oZ (-1) a.out)) fun k=> .ob (k.out.length<=68719476736) (.ret (jR e.Notes 3 k).out))) o)) (.br ((↑e.Items.length:Int)==0) (.ob (g.out.length<=68719476736) (rl (dY true 14 g))) (.ix 0 e.Items.length (.ob (g.out.length<=68719476736) (rl (dY ((e.Items.getD 0 gQ).Num==0) 14 g)))))) (.lt (dY false 3 d) fun i=> .br (decide (1<=(↑e.Items.length:Int))) (.br (decide ((↑e.Items.length:Int)<=64)) (.ob (d.out.length<=68719476736) (rl (dY (decide ((↑e.Reserved.length:Int)<=16)) 3 d))) (.ob (d.out.length<=68719476736) (rl i))) (.ob (d.out.length<=68719476736) (rl i)))) (.ob (List.length e.Name<=4294967296) (.ob (0<=68719476736) (rl (dY (Ve e.Name) 8 (ak.mk e.Name (-1) [])))))
def uI (e:eu):=(enumPr e).val
theorem VX (e:eu)(h:okE e):gU (enumPr e) (fun r=>r.length<=16777216):=
 have H:e.Items.length<=1048576:=h.1;have I:e.Reserved.length<=1048576:=h.2.1;have L:e.Name.length<=1048576:=h.2.2;bg (fun j=>j.out.length<=1) (ah (aj) (ah (aj) (af E_))) (fun j g=>have g:j.out.length<=1:=g;bg (fun m=>m.out.length<=2) (au fun w p=>have z:=tN p;aU (fun _=>aU (fun _=>ah (aj) (af E_)) (fun _=>ah (aj) (af dm))) (fun _=>ah (aj) (af dm))) (fun m i=>have i:m.out.length<=2:=i;bg (fun n=>n.out.length<=3) (bI (fun _=>ah (aj) (af E_)) (fun _=>aH aj aj (ah (aj) (af E_)))) (fun n f=>have f:n.out.length<=3:=f;bZ <| bC (fun(a:Nat) b=>b.out.length<=3+6*a) aj aj (fun a b J q=>have k:b.out.length<=3+6*a:=q;aH aj aj (bg (fun o=>o.out.length<=3+6*a+1) (aU (fun _=>ah (aj) (af E_)) (fun _=>ah (aj) (af E_))) (fun o d=>have d:o.out.length<=3+6*a+1:=d;bg (fun l=>l.out.length<=3+6*a+2) (bI (fun _=>ah (aj) (af E_)) (fun _=>qo fun E A _=>aH aj aj (ah (aj) (af E_)))) (fun l c=>have c:l.out.length<=3+6*a+2:=c;ah (aj) (aH aj aj (au fun K s=>have D:=tN s;ah (aj) (au fun C u=>have x:=tN u;ah (aj) (au fun y v=>have F:=tN v;ah (aj) (af (by(try simp only[Sum.elim_inl,Sum.elim_inr])<;>(first | trivial | omega | (dsimp only;omega) | (refine Du (Ot aj rfl) ?_;omega) | (refine⟨Int.le_trans (Int.ofNat_le.2 (Ot aj rfl)) ?_,?_⟩<;>omega) | (refine Du (Za _ _ _) ?_;omega) | (refine Du (abL _ _ _) ?_;first | omega | (dsimp only at*;omega) | (simp only[Qa7]at*;omega))))))))))))) (fun b k=>have k:b.out.length<=3+6*e.Items.length:=k;ah (aj) (au fun G t=>have B:=alh dm t;ah (dm) (af qab))))))
def auu:bi Z:=E1 [U8,aaE,akQ,Rl,QU,ayD,ac2,PS] [jS 6 (bD (fun b=>[s0 50, .cells (pid (b 9)) hh3]) adV),jS 100003 (bD (fun b=>[.cells (pid (b 9)) hh3]) hh4),jS 100004 (bD (fun b=>[.cells (pid (b 9)) hh3]) hh4),jS 100005 (bD (fun b=>[.cells (pid (b 9)) hh3]) hh4),jS 100010 (bD (fun b=>[.cells (pid (b 9)) hh3]) hh4),jS 100011 (bD (fun b=>[.cells (pid (b 9)) hh3]) hh4),jS 800001 (bD (fun b=>[.cells (pid (b 3)) hh3]) hh4)] (a1 (aAgg cd_Enum)) agx [] func149 1 enumPr (fun a=>okE a) fun a h=>(VX a h).1
def cSvc (s:ax)(v:bz):Pg (List dw):=.ob (List.length v.Name<=4294967296) (.ob (0<=68719476736) (.lt (dY (Ve v.Name) 8 (ak.mk v.Name (-1) [])) fun x=> .ob (x.out.length<=68719476736) (aL v.Methods (.each false mg v.Methods dA (fun h a (b:ak)=> .ix h v.Methods.length (.ob (b.out.length<=68719476736) (.lt (dY (D6 a.Name) 8 (ak.mk b.oZ h b.out)) fun i=> .lt (iD s a.In) fun u=> .lt (iD s a.Out) fun w=> .br (h==0) (.ob (i.out.length<=68719476736) (.lt (dY true 11 i) fun k=> .br u.2 (.ob (k.out.length<=68719476736) (.lt (dY w.2 12 k) fun j=> .br (decide (1<=a.Shape)) (.ob (j.out.length<=68719476736) (.lt (dY (decide (a.Shape<=4)) 1 j) fun p=> .ob (p.out.length<=68719476736) (rl (jR a.Notes 6 p)))) (.ob (j.out.length<=68719476736) (.lt (dY false 1 j) fun n=> .ob (n.out.length<=68719476736) (rl (jR a.Notes 6 n)))))) (.ob (k.out.length<=68719476736) (.lt (dY false 12 k) fun f=> .br (decide (1<=a.Shape)) (.ob (f.out.length<=68719476736) (.lt (dY (decide (a.Shape<=4)) 1 f) fun t=> .ob (t.out.length<=68719476736) (rl (jR a.Notes 6 t)))) (.ob (f.out.length<=68719476736) (.lt (dY false 1 f) fun m=> .ob (m.out.length<=68719476736) (rl (jR a.Notes 6 m)))))))) (.lt (aQ .i64 (h - 1)) fun g=> .ix g v.Methods.length (.ob (i.out.length<=68719476736) (.lt (dY (!(Op.bytesLess a.Name (v.Methods.getD g.toNat dA).Name || a.Name==(v.Methods.getD g.toNat dA).Name)) 11 i) fun e=> .br u.2 (.ob (e.out.length<=68719476736) (.lt (dY w.2 12 e) fun c=> .br (decide (1<=a.Shape)) (.ob (c.out.length<=68719476736) (.lt (dY (decide (a.Shape<=4)) 1 c) fun o=> .ob (o.out.length<=68719476736) (rl (jR a.Notes 6 o)))) (.ob (c.out.length<=68719476736) (.lt (dY false 1 c) fun r=> .ob (r.out.length<=68719476736) (rl (jR a.Notes 6 r)))))) (.ob (e.out.length<=68719476736) (.lt (dY false 12 e) fun d=> .br (decide (1<=a.Shape)) (.ob (d.out.length<=68719476736) (.lt (dY (decide (a.Shape<=4)) 1 d) fun l=> .ob (l.out.length<=68719476736) (rl (jR a.Notes 6 l)))) (.ob (d.out.length<=68719476736) (.lt (dY false 1 d) fun q=> .ob (q.out.length<=68719476736) (rl (jR a.Notes 6 q)))))))))))) (fun h (b:ak)=> .ob (b.out.length<=68719476736) (.ret (jR v.Notes 5 (ak.mk b.oZ (-1) b.out)).out)) (dY (decide ((↑v.Methods.length:Int)<=64)) 3 x)))))
def PG (s:ax)(v:bz):=(cSvc s v).val
theorem ae4 (s:ax)(v:bz)(h:okSv v):gU (cSvc s v) (fun r=>r.length<=16777216):=
 have h1:v.Methods.length<=1048576:=h.1;have h2:v.Name.length<=1048576:=h.2;ah (aj) (ah (aj) (au fun v4 e=>have H:=tN e;ah (dm) (bZ <| bC (fun(c:Nat) a=>a.out.length<=2+5*c) E_ aj (fun c a qW u=>have b:a.out.length<=2+5*c:=u;aH aj aj (ah (aj) (au fun v5 f=>have M:=tN f;au fun v6 aa=>au fun v7 ab=>bI (fun _=>ah (dm) (au fun v8 q=>have Z:=tN q;bH (fun _=>ah (dm) (au fun v9 k=>have P:=tN k;aU (fun _=>ah (dm) (au fun K n=>have D:=tN n;ah (dm) (af qab))) (fun _=>ah (dm) (au fun E w=>have W:=tN w;ah (dm) (af qab))))) (fun _=>ah (dm) (au fun T i=>have X:=tN i;aU (fun _=>ah (dm) (au fun ac l=>have I:=tN l;ah (dm) (af qab))) (fun _=>ah (dm) (au fun B j=>have G:=tN j;ah (dm) (af qab))))))) (fun _=>qo fun Q U _=>aH aj aj (ah (dm) (au fun R d=>have ad:=tN d;bH (fun _=>ah (dm) (au fun C p=>have y:=tN p;aU (fun _=>ah (dm) (au fun F t=>have N:=tN t;ah (dm) (af qab))) (fun _=>ah (dm) (au fun S o=>have V:=tN o;ah (dm) (af qab))))) (fun _=>ah (dm) (au fun L g=>have z:=tN g;aU (fun _=>ah (dm) (au fun A m=>have J:=tN m;ah (dm) (af qab))) (fun _=>ah (dm) (au fun O x=>have Y:=tN x;ah (dm) (af qab))))))))))) (fun a b=>have b:a.out.length<=2+5*v.Methods.length:=b;ah (aj) (af qab)))))
def aC1:bi Z:=E1 [U8,xn,aaE,Rl,QU] [jS 5 (bD (fun b=>[s0 30, .cells (pid (b 15)) hh3]) adV),jS 800001 (bD (fun b=>[.cells (pid (b 5)) hh3]) hh4)] aBz agx [] func150 1 (u2 cSvc) (fun a=>okSv a.2) fun a h=>(ae4 a.1 a.2 h).1
def rising (l:List Str):Pg Bool:=.Ov [] (some (l.length<=9223372036854775807)) yc 1 (↑l.length:Int) (fun a (c:Unit)=> .ix a l.length (.lt (aQ .i64 (a - 1)) fun b=> .ix b l.length (.br (Op.bytesLess (l.getD a.toNat []) (l.getD b.toNat []) || l.getD a.toNat []==l.getD b.toNat []) (.ret (.inr false)) (rl ())))) (fun a (c:Unit)=> .ret true) ()
def QQ (l:List Str):=(rising l).val
theorem an9 (l:List Str):Is (rising l):=
 JB trivial aj (fun h=>by simp only[rq]at h;omega) (fun a b _ _ _=>is_ix aj aj (is_ltw fun d c _=>is_ix aj aj (is_br iR iR))) (fun a b _ _=>is_ret)
def asq:bi Z:=E0 [] [jS 2 (bD (fun b=>[s0 3]) iL)] aib hh2 [] func145 1 rising fun a=>an9 a
def lists (s:ax):Pg (List (List Str)):=.cut (fun(e:List (List Str))=> .cut (fun(d:List (List Str))=> aL s.bK (.each false mg s.bK iC (fun h g (a:List (List Str))=> .ix h s.bK.length (.ob ((0:Int)<=2/\(2:Int) < 3) (.ob (bG ((a.getD 2 []).length+1) 16) (.ob ((0:Int)<=2/\(2:Int) < 3) (.ret (.inl [a.getD 0 [],a.getD 1 [],a.getD 2 []++[g.Name]])))))) (fun h (a:List (List Str))=> .ret [a.getD 0 [],a.getD 1 [],a.getD 2 []]) [d.getD 0 [],d.getD 1 [],d.getD 2 []])) (aL s.Enums (.each false mg s.Enums dR (fun f k (b:List (List Str))=> .ix f s.Enums.length (.ob ((0:Int)<=1/\(1:Int) < 3) (.ob (bG ((b.getD 1 []).length+1) 16) (.ob ((0:Int)<=1/\(1:Int) < 3) (.ret (.inl [b.getD 0 [],b.getD 1 []++[k.Name],b.getD 2 []])))))) (fun f (b:List (List Str))=> .ret (.inl [b.getD 0 [],b.getD 1 [],b.getD 2 []])) [e.getD 0 [],e.getD 1 [],e.getD 2 []]))) (aL s.Messages (.each false mg s.Messages bT (fun i j (c:List (List Str))=> .ix i s.Messages.length (.ob ((0:Int)<=0/\(0:Int) < 3) (.ob (bG ((c.getD 0 []).length+1) 16) (.ob ((0:Int)<=0/\(0:Int) < 3) (.ret (.inl [c.getD 0 []++[j.Name],c.getD 1 [],c.getD 2 []])))))) (fun i (c:List (List Str))=> .ret (.inl [c.getD 0 [],c.getD 1 [],c.getD 2 []])) [[],[],[]]))
def ahC (s:ax):=(lists s).val
theorem apq (s:ax)(h:okS s):gU (lists s) (fun _=>True):=
 have r:s.Messages.length<=150:=h.1;have t:s.Enums.length<=150:=h.2.1;have v:s.bK.length<=150:=h.2.2.1;bg (fun f=>(f.getD 0 []).length<=150/\(f.getD 1 []).length<=0/\(f.getD 2 []).length<=0) (bZ <| bC (fun(l:Nat) c=>(c.getD 0 []).length<=l/\(c.getD 1 []).length<=0/\(c.getD 2 []).length<=0) dm aj (fun l c u o=>have a:(c.getD 0 []).length<=l/\(c.getD 1 []).length<=0/\(c.getD 2 []).length<=0:=o;aH aj aj (ah (aj) (ah (qbc) (ah (aj) (af dm))))) (fun c a=>have a:(c.getD 0 []).length<=s.Messages.length/\(c.getD 1 []).length<=0/\(c.getD 2 []).length<=0:=a;af dm)) (fun f g=>have g:(f.getD 0 []).length<=150/\(f.getD 1 []).length<=0/\(f.getD 2 []).length<=0:=g;bg (fun e=>(e.getD 0 []).length<=150/\(e.getD 1 []).length<=150/\(e.getD 2 []).length<=0) (bZ <| bC (fun(k:Nat) d=>(d.getD 0 []).length<=150/\(d.getD 1 []).length<=k/\(d.getD 2 []).length<=0) dm aj (fun k d q m=>have a:(d.getD 0 []).length<=150/\(d.getD 1 []).length<=k/\(d.getD 2 []).length<=0:=m;aH aj aj (ah (aj) (ah (qbc) (ah (aj) (af dm))))) (fun d a=>have a:(d.getD 0 []).length<=150/\(d.getD 1 []).length<=s.Enums.length/\(d.getD 2 []).length<=0:=a;af dm)) (fun e i=>have i:(e.getD 0 []).length<=150/\(e.getD 1 []).length<=150/\(e.getD 2 []).length<=0:=i;bZ <| bC (fun(j:Nat) b=>(b.getD 0 []).length<=150/\(b.getD 1 []).length<=150/\(b.getD 2 []).length<=j) dm aj (fun j b p n=>have a:(b.getD 0 []).length<=150/\(b.getD 1 []).length<=150/\(b.getD 2 []).length<=j:=n;aH aj aj (ah (aj) (ah (qbc) (ah (aj) (af dm))))) (fun b a=>have a:(b.getD 0 []).length<=150/\(b.getD 1 []).length<=150/\(b.getD 2 []).length<=s.bK.length:=a;af dm)))
def aAV:bi Z:=E1 [] [jS 3 (bD (fun b=>[s0 13, .cells (pid (b 3)) avr]) (aJ cI anv)),jS 8 (bD (fun b=>[s0 28, .cells (pid (b 3)) avr]) (aJ cI anv)),jS 13 (bD (fun b=>[s0 43, .cells (pid (b 3)) avr]) (aJ cI anv)),jS 100007 (bD (fun b=>[.cells (pid (b 3)) avr]) anv),jS 100012 (bD (fun b=>[.cells (pid (b 3)) avr]) anv)] XI (shr [.slot 0 true (nn 3)] anv) [] func143 1 lists (fun a=>okS a) fun a h=>(apq a h).1
def ap0 (x:Str)(l:List (List Str)):Pg Bool:=.ob ((0:Int)<=0/\(0:Int) < 3) (.ret ((l.getD 0 []).any fun(a:Str)=>x==a))
def asv (x:Str)(l:List (List Str)):=(ap0 x l).val
def agt:bi Z:=QF [alV] [] ayA (kC (bCells (XV 3 [] cd_Lstr)) (b1 (adA .i64 0))) hh2 [0,1] func208 1 fun a=>ap0 a.1.1 a.2.1
def atD:bi Z:=EIB [agt] cd_Lstr 208 [0,1] (kC (bCells (XV 3 [] cd_Lstr)) (b1 (adA .i64 0))) func273 [] fun x b=>asv x b.1
def aEL:bi Z:=EAB [agt,aeO,Rq,ahZ,atD] cd_Lstr 208 [0,1] (kC (bCells (XV 3 [] cd_Lstr)) (b1 (adA .i64 0))) func207 fun x b=>asv x b.1
def ap1 (x:Str)(l:List (List Str)):Pg Bool:=.ob ((0:Int)<=1/\(1:Int) < 3) (.ret ((l.getD 1 []).any fun(a:Str)=>x==a))
def azv (x:Str)(l:List (List Str)):=(ap1 x l).val
def asC:bi Z:=QF [alV] [] ayA (kC (bCells (XV 3 [] cd_Lstr)) (b1 (adA .i64 1))) hh2 [0,1] func208 1 fun a=>ap1 a.1.1 a.2.1
def aC8:bi Z:=EIB [agt,asC] cd_Lstr 208 [0,1] (kC (bCells (XV 3 [] cd_Lstr)) (b1 (adA .i64 1))) func273 [] fun x b=>azv x b.1
def aD6:bi Z:=EAB [agt,asC,aeO,Rq,ahZ,atD,aC8] cd_Lstr 208 [0,1] (kC (bCells (XV 3 [] cd_Lstr)) (b1 (adA .i64 1))) func207 fun x b=>azv x b.1
def apart (l:List (List Str)):Pg Bool:=.lt (aQ .i64 (0+1)) fun b=> .ob (0<=b/\b < 3) (.br ((l.getD 1 []).any fun(x:Str)=>asv x [l.getD 0 [],l.getD 1 [],l.getD 2 []]) (.ret false) (.lt (aQ .i64 (b+1)) fun a=> .ob (0<=a/\a < 3) (.br ((l.getD 2 []).any fun(x:Str)=>asv x [l.getD 0 [],l.getD 1 [],l.getD 2 []]) (.ret false) (.ob (0<=a/\a < 3) (.br ((l.getD 2 []).any fun(x:Str)=>azv x [l.getD 0 [],l.getD 1 [],l.getD 2 []]) (.ret false) (.ret true))))))
def aiR (l:List (List Str)):=(apart l).val
def axy:bi Z:=E0 [amI,ajk,as2,aEL,aD6,agt,asC] [jS 600002 (bD (fun _=>List.replicate 4 (.iter 0)) l0),jS 600005 (bD (fun _=>List.replicate 4 (.iter 0)) l0)] (a1 (aAgg (XV 3 [] cd_Lstr))) hh2 [] func146 1 apart
theorem aDu {s:ax}{m:aG}{a:List (Str×Bool)}{v:List dw}(b:okM m)(h:v=tH s m a):v.length<=16777216:=by
 subst h;exact(ZH s m a b).2
theorem azA {e:eu}{v:List dw}(a:okE e)(h:v=uI e):v.length<=16777216:=by
 subst h;exact(VX e a).2
theorem aGY {s:ax}{x:bz}{v:List dw}(a:okSv x)(h:v=PG s x):v.length<=16777216:=by
 subst h;exact(ae4 s x a).2
def cAll (s:ax):Pg (List dw):=.ob (okS s) (.lt (ahC s) fun a=> .cut (fun(v:ak)=> .cut (fun(z:ak)=> .ob (s.Messages.length<=1048576/\∀(m:aG),m∈s.Messages->m.Fields.length<=1048576) (.cut (fun(w:ak)=> .cut (fun(t:ak)=> aL s.bK (.each false mg s.bK iC (fun k h (d:ak)=> .ix k s.bK.length (.ob (okSv h) (.lt (PG s h) fun f=> .ob (bG (d.out.length+f.length) 32) (rl (ak.mk d.oZ d.num (d.out++f)))))) (fun k (d:ak)=> .ret d.out) t)) (aL s.Enums (.each false mg s.Enums dR (fun j i (b:ak)=> .ix j s.Enums.length (.ob (okE i) (.lt (uI i) fun l=> .ob (bG (b.out.length+l.length) 32) (rl (ak.mk b.oZ b.num (b.out++l)))))) (fun j (b:ak)=> rl b) w))) (aL s.Messages (.each false mg s.Messages bT (fun q g (c:ak)=> .ix q s.Messages.length (.ob (okM g) (.lt (tH s g (mf s)) fun o=> .ob (bG (c.out.length+o.length) 32) (rl (ak.mk c.oZ c.num (c.out++o)))))) (fun q (c:ak)=> rl c) z)))) (.ob (v.out.length<=68719476736) (rl (dY (aiR [a.getD 0 [],a.getD 1 [],a.getD 2 []]) 9 v)))) (.cut (fun(x:ak)=> .lt (aQ .i64 (0+1)) fun e=> .cut (fun(u:ak)=> .cut (fun(A:ak)=> rl A) (.lt (aQ .i64 (e+1)) fun n=> .ob (0<=n/\n < 3) (.cut (fun(r:ak)=> .ob (r.out.length<=68719476736) (rl (dY (QQ (a.getD 2 [])) 11 r))) (.ob (u.out.length<=68719476736) (rl (dY (decide ((↑(a.getD 2 []).length:Int)<=64)) 3 u)))))) (.ob (0<=e/\e < 3) (.cut (fun(y:ak)=> .ob (y.out.length<=68719476736) (rl (dY (QQ (a.getD 1 [])) 11 y))) (.ob (x.out.length<=68719476736) (rl (dY (decide ((↑(a.getD 1 []).length:Int)<=64)) 3 x)))))) (.ob ((0:Int)<=0/\(0:Int) < 3) (.cut (fun(p:ak)=> .ob (p.out.length<=68719476736) (rl (dY (QQ (a.getD 0 [])) 11 p))) (.ob (0<=68719476736) (rl (dY (decide ((↑(a.getD 0 []).length:Int)<=64)) 3 (ak.mk [] (-1) []))))))))
def GU (s:ax):=(cAll s).val
theorem aur (s:ax)(h:okS s):gU (cAll s) (fun _=>True):=
 have Z:s.Messages.length<=150:=h.1;have h2:s.Enums.length<=150:=h.2.1;have h3:s.bK.length<=150:=h.2.2.1;ah (aj) (au fun U Q=>bg (fun A=>A.out.length<=6) (bg (fun B=>B.out.length<=2) (ah (aj) (bg (fun v=>v.out.length<=1) (ah (aj) (af E_)) (fun v t=>have t:v.out.length<=1:=t;ah (aj) (af E_)))) (fun B u=>have u:B.out.length<=2:=u;qo fun W L _=>bg (fun z=>z.out.length<=4) (ah (aj) (bg (fun C=>C.out.length<=3) (ah (aj) (af E_)) (fun C p=>have p:C.out.length<=3:=p;ah (aj) (af E_)))) (fun z j=>have j:z.out.length<=4:=j;bg (fun D=>D.out.length<=6) (qo fun X J _=>ah (aj) (bg (fun y=>y.out.length<=5) (ah (aj) (af E_)) (fun y o=>have o:y.out.length<=5:=o;ah (aj) (af E_)))) (fun D l=>have l:D.out.length<=6:=l;af dm)))) (fun A k=>have k:A.out.length<=6:=k;bg (fun w=>w.out.length<=7) (ah (aj) (af E_)) (fun w r=>have r:w.out.length<=7:=r;ah (qak) (bg (fun e=>e.out.length<=2516582407) (bZ <| bC (fun(x:Nat) d=>d.out.length<=7+16777216*x) aj aj (fun x d P F=>have a:d.out.length<=7+16777216*x:=F;aH aj aj (ah (qak) (au fun R G=>have S:=aDu (h.2.2.2.1 _ (getD_mem aj)) G;ah (qa6) (af dm)))) (fun d a=>have a:d.out.length<=7+16777216*s.Messages.length:=a;af dm)) (fun e q=>have q:e.out.length<=2516582407:=q;bg (fun i=>i.out.length<=5033164807) (bZ <| bC (fun(c:Nat) b=>b.out.length<=2516582407+16777216*c) aj aj (fun c b N E=>have a:b.out.length<=2516582407+16777216*c:=E;aH aj aj (ah (qak) (au fun V K=>have Y:=azA (h.2.2.2.2.1 _ (getD_mem aj)) K;ah (qa6) (af dm)))) (fun b a=>have a:b.out.length<=2516582407+16777216*s.Enums.length:=a;af dm)) (fun i n=>have n:i.out.length<=5033164807:=n;bZ <| bC (fun(f:Nat) g=>g.out.length<=5033164807+16777216*f) aj aj (fun f g O H=>have a:g.out.length<=5033164807+16777216*f:=H;aH aj aj (ah (qak) (au fun M I=>have T:=aGY (h.2.2.2.2.2 _ (getD_mem aj)) I;ah (qa6) (af dm)))) (fun g a=>have a:g.out.length<=5033164807+16777216*s.bK.length:=a;af dm)))))))
def aDp:bi Z:=E1 [aAV,U8,asq,axy,anX,axF,auu,aC1] [jS 600004 (bD (fun _=>List.replicate 4 (.iter 0)) l0),jS 12 (bD (fun b=>[s0 41, .cells (pid (b 15)) hh3]) adV),jS 17 (bD (fun b=>[s0 61, .cells (pid (b 15)) hh3]) adV),jS 22 (bD (fun b=>[s0 79, .cells (pid (b 15)) hh3]) adV),jS 100007 (bD (fun b=>[.cells (pid (b 15)) hh3]) hh4),jS 100008 (bD (fun b=>[.cells (pid (b 15)) hh3]) hh4),jS 100009 (bD (fun b=>[.cells (pid (b 15)) hh3]) hh4),jS 100010 (bD (fun b=>[.cells (pid (b 15)) hh3]) hh4),jS 100016 (bD (fun b=>[.cells (pid (b 15)) hh3]) hh4),jS 100021 (bD (fun b=>[.cells (pid (b 15)) hh3]) hh4),jS 800001 (bD (fun b=>[.cells (pid (b 3)) hh3]) hh4)] XI agx [] func93 1 cAll (fun a=>okS a) fun a h=>(aur a h).1
def H9 (s:ax):Pg Bool:=.ob (okS s) (.ret ((↑(GU s).length:Int)==0))
def jT (s:ax):=(H9 s).val
def atI:bi Z:=E1 [aDp] [] XI hh2 [] func49 1 H9 fun a=>okS a
def VP {R:Type}(t:Pg R)(Q:R->Prop):Prop:=Q t.val
section
variable {R A X Y:Type}{Q:R->Prop}
theorem aI {r:R}(h:Q r):VP (.ret r) Q:=h
theorem bf {p:Prop}{k:Pg R}(h:VP k Q):VP (.ob p k) Q:=by unfold VP;rw[aV];exact h
theorem iY {i:Int}{n:Nat}{k:Pg R}(h:VP k Q):VP (.ix i n k) Q:=by unfold VP;rw[di];exact h
theorem iG {p:Prop}{k:Pg R}(h:VP k Q):VP (.as p k) Q:=by unfold VP;rw[dW];exact h
theorem dG {v:A}{k:A->Pg R}(h:∀x,x=v->VP (k x) Q):VP (.lt v k) Q:=by unfold VP;rw[aT];exact h v rfl
theorem dI {b:Bool}{t e:Pg R}(c:b=true->VP t Q)(a:b=false->VP e Q):VP (.br b t e) Q:=by
 unfold VP;rw[aF];cases b with
 | true=>exact c rfl
 | false=>exact a rfl
theorem dQ (c:X->Prop){a:Pg (X⊕R)}{k:X->Pg R}(b:VP a (Sum.elim c Q))(d:∀x,c x->VP (k x) Q):VP (.cut k a) Q:=by
 unfold VP at b⊢;rw[dn];cases e:a.val with
 | inl x=>rw[e]at b;exact d x b
 | inr r=>simp_all
theorem gB {h:Bool}{s:Ix X Y}{l:List A}{d:A}{a:Int->A->Y->Pg (Y⊕R)}{c:Int->Y->Pg R}{y:Y}(I:Nat->Y->Prop)(g:I 0 y)(i:∀(k:Nat) (y:Y),k < l.length->I k y->VP (a ↑k (l.getD k d) y) (Sum.elim (I (k+1)) Q))(e:∀y,I l.length y->VP (c ↑l.length y) Q):VP (.each h s l d a c y) Q:=by
 unfold VP;rw[dN];refine Gp (d:=d) I l 0 y g (fun j y f b=> ?_) (fun y b=> ?_)
 ·rw[Bc]at b⊢;exact i j y f b
 ·rw[Bc]at b⊢;exact e y b
theorem asU {s:Ix X Y}{a b:Int}{c:Int->Y->Pg (Y⊕R)}{e:Int->Y->Pg R}{y:Y}(I:Int->Y->Prop)(h:I a y)
  (j:∀(i:Int) (y:Y),a<=i->i < b->I i y->VP (c i y) (Sum.elim (I (i+1)) Q)) (g:∀i y,a<=i->b<=i->I i y->VP (e i y) Q):VP (.cnt s a b c e y) Q:=by
 unfold VP;rw[lQ];refine ES (fun i y=>a<=i/\I i y) b _ a y rfl ⟨N8 _,h⟩ (fun i y f d=> ?_) (fun i y f d=>g i y d.1 f d.2);have:=j i y d.1 f d.2;unfold VP at this;cases l:(c i y).val with
 | inr r=>grind
 | inl k=>grind
end
theorem fD {a:Bool}{e:Int}{x:ak}(h:(dY a e x).out=[]):a=true/\x.out=[]:=by
 cases a with
 | true=>exact⟨rfl,h⟩
 | false=>
  have h:x.out++[dw.mk x.oZ x.num e]=[]:=h;simp_all
theorem qI {l:List Note}{t:Int}{x:ak}(h:(jR l t x).out=[]):x.out=[]:=(fD h).2
theorem ML {l:List ny}{a b:Int}{x:ak}(h:(IC l a b x).out=[]):x.out=[]:=by
 have k:VP (spans l a b x) (fun y=>y.out=[]->x.out=[]):=by
  unfold spans;refine iG (gB (fun _ y=>y.out=[]->x.out=[]) id (fun k y e c=> ?_) (fun y c=>aI c));repeat' first
   | exact aI fun h=>c (fD (fD h).2).2
   | exact aI fun h=>c (fD h).2
   | refine bf ?_
   | refine iY ?_
   | refine iG ?_
   | (refine dG fun x d=> ?_;subst d)
   | refine dI (fun _=> ?_) (fun _=> ?_)
   | refine dQ (fun z=>z.out=[]->x.out=[]) ?_ (fun z c=> ?_)
 exact k h
def Gz (s:ax)(f:aN):Prop:=(1<=f.Num/\f.Num<=65535)/\(1<=f.Card/\f.Card<=5/\BZ f.Card f.Key=true)/\F6 s f=true
theorem Zo {s:ax}{m:aG}{i:Int}{x:ak}(h:(BV s m i x).out=[]):x.out=[]/\Gz s (m.Fields.getD i.toNat aB):=by
 have k:VP (field s m i x) (fun y=>y.out=[]->x.out=[]/\Gz s (m.Fields.getD i.toNat aB)):=by
  unfold field;simp only[ae.bJ];generalize G:m.Fields.getD i.toNat aB=f;have b:aN.mk f.Num f.Name f.Card f.Key f.bV f.Union f.dD f.Default f.Notes=f:=rfl;rw[b];refine iY (dQ (fun z=>z.out=[]->x.out=[]) (aI fun h=>h) fun q u=>dQ (fun z=>z.out=[]->x.out=[]/\1<=f.Num/\f.Num<=65535) ?_ fun C A=>dQ (fun z=>z.out=[]->x.out=[]/\1<=f.Num/\f.Num<=65535) ?_ fun D j=>dQ (fun z=>z.out=[]->x.out=[]/\1<=f.Num/\f.Num<=65535) ?_ fun v g=>dQ (fun z=>z.out=[]->x.out=[]/\1<=f.Num/\f.Num<=65535) ?_ fun t p=>dQ (fun z=>z.out=[]->x.out=[]/\1<=f.Num/\f.Num<=65535) ?_ fun E B=>
   dQ (fun z=>z.out=[]->x.out=[]/\(1<=f.Num/\f.Num<=65535)/\(1<=f.Card/\f.Card<=5/\BZ f.Card f.Key=true)) ?_ fun w a=>dQ (fun z=>z.out=[]->x.out=[]/\Gz s f) ?_ fun r c=>dQ (fun z=>z.out=[]->x.out=[]/\Gz s f) ?_ fun F e=> ?_)
  ·grind [fD,dI,bf,aI]
  ·grind [fD,dI,iY,dG,bf,aI]
  ·exact bf (aI fun h=>j (fD h).2)
  ·exact iY (bf (aI fun h=>g (fD h).2))
  ·grind [fD,dI,bf,aI]
  ·grind [fD,dI,dG,bf,aI]
  ·exact bf (aI fun h=>⟨(a (fD h).2).1,(a (fD h).2).2.1,(a (fD h).2).2.2,(fD h).1⟩)
  ·exact bf (bf (aI fun h=>c (fD h).2))
  ·refine bf (dG fun o d=>bf (dG fun n l=>aI fun h=> ?_));subst d l;exact e (fD (qI h)).2
 exact k h
theorem anz {s:ax}{m:aG}{b:List (Str×Bool)}(h:tH s m b=[]){i:Nat}(l:i < m.Fields.length):Gz s (m.Fields.getD i aB):=by
 have k:VP (inMsg s m b) (fun r=>r=[]->∀i,i < m.Fields.length->Gz s (m.Fields.getD i aB)):=by
  unfold inMsg;refine dQ (fun _=>True) (bf (bf (aI trivial))) fun n _=>dQ (fun _=>True) (dI (fun _=>bf (iG (iG (aI trivial)))) (fun _=>bf (aI trivial))) fun t _=>
   dQ (fun y=>y.out=[]->∀i,i < m.Fields.length->Gz s (m.Fields.getD i aB)) (iG (asU (fun i y=>y.out=[]->∀j:Nat,(j:Int) < i->Gz s (m.Fields.getD j aB)) (fun _ j d=>absurd d aj) (fun i y f g a=>bf (aI fun h=> ?_)) (fun i y f g a=>aI fun h j d=>a h j aj))) fun o e=>
   bf (iG (gB (fun _ y=>y.out=[]->∀i,i < m.Fields.length->Gz s (m.Fields.getD i aB)) (fun h=>e (ML h)) (fun k y p a=>iY (bf (bf (aI fun h=>a (fD h).2)))) (fun y a=>bf (bf (dG fun q c=>bf (aI fun h=> ?_))))))
  ·obtain⟨v,u⟩:=Zo h
   grind
  ·subst c;exact a (qI (fD h).2)
 exact k h i l
theorem aeb {s:ax}(h:GU s=[]){m:aG}(l:m∈s.Messages):tH s m (mf s)=[]:=by
 have k:VP (cAll s) (fun r=>r=[]->∀i,i < s.Messages.length->tH s (s.Messages.getD i bT) (mf s)=[]):=by
  unfold cAll;refine bf (dG fun p _=>dQ (fun _=>True) ?_ fun x _=>dQ (fun _=>True) (bf (aI trivial)) fun u _=>bf (dQ (fun y=>y.out=[]->∀i,i < s.Messages.length->tH s (s.Messages.getD i bT) (mf s)=[]) ?_ fun q j=>dQ (fun y=>y.out=[]->∀i,i < s.Messages.length->tH s (s.Messages.getD i bT) (mf s)=[]) ?_ fun o c=> ?_))
  ·repeat' first
    | exact aI trivial
    | refine bf ?_
    | refine dG fun _ _=> ?_
    | refine dQ (fun _=>True) ?_ fun _ _=> ?_
  ·refine iG (gB (fun n y=>y.out=[]->∀i,i < n->tH s (s.Messages.getD i bT) (mf s)=[]) (fun _ i b=>absurd b aj) (fun k y f a=>iY (bf (dG fun t g=>bf (aI fun h=> ?_)))) (fun y a=>aI a));intro i b;obtain⟨w,z⟩:=Qb0.1 h
   grind
  ·exact iG (gB (fun _ y=>y.out=[]->∀i,i < s.Messages.length->tH s (s.Messages.getD i bT) (mf s)=[]) j (fun k y f a=>iY (bf (dG fun v g=>bf (aI fun h=>a (Qb0.1 h).1)))) (fun y a=>aI a))
  ·exact iG (gB (fun _ y=>y.out=[]->∀i,i < s.Messages.length->tH s (s.Messages.getD i bT) (mf s)=[]) c (fun k y f a=>iY (bf (dG fun v g=>bf (aI fun h=>a (Qb0.1 h).1)))) (fun y a=>aI a))
 obtain⟨i,b,e⟩:=uH (d:=bT) l;rw[<-e];exact k h i b
theorem ZL {s:ax}(h:jT s=true){m:aG}(g:m∈s.Messages){f:aN}(a:f∈m.Fields):Gz s f:=by
 have e:GU s=[]:=by
  unfold jT H9 at h;simp_all
 obtain⟨i,b,c⟩:=uH (d:=aB) a;rw[<-c];exact anz (aeb e g) b
def aG9 (x:Note)(a:Str):Pg Bool:=.ret (x.Name==a)
def as4 (x:Note)(a:Str):=(aG9 x a).val
def au7:bi Z:=QF [] [] (aCons (aAgg cd_Note) Dn) Qr hh2 [0] func233 1 (u11 aG9)
def aE7:bi Z:=EIB [au7] cd_LNote 233 [0] Qr func232 ou fun x b=>as4 x b
def avS (l:List Note)(a:Str):Pg Int:=.ret (dO (fun(x:Note)=>as4 x a) l)
def az0 (l:List Note)(a:Str):=(avS l a).val
def aty:bi Z:=E0 [aE7,au7] [] ayY jE [] func169 1 (u2 avS)
def nFind (l:List Note)(b:Str):Pg (ae×Bool):=.lt (az0 l b) fun a=> .br (decide (a < 0)) (.ret (ae.mk 0 0 [] [] [] [] [],false)) (.ix a l.length (.ret ((l.getD a.toNat ou).Val.re,true)))
def abC (l:List Note)(a:Str):=(nFind l a).val
theorem awV (l:List Note)(a:Str):Is (nFind l a):=
 is_lt fun c b=>is_brd iR (fun _=>is_ix aj (by rw[b];exact(jy (fun(x:Note)=>as4 x a) l).1) is_ret)
def alj:bi Z:=E0 [aty] [] ayY aAm [] func110 2 (u2 nFind) fun a=>awV a.1 a.2
def atM (l:List Note):Pg (List UInt8):=.ret (abC l [97,108,105,97,115]).1.Text
def vW (l:List Note):=(atM l).val
def awL:bi Z:=E0 [alj] [] (a1 (aLf cd_LNote)) Dp [] func105 1 atM
def av_ (l:List ny):Pg (List ny):=.unk false (fun(b:Bool)=>b=true->l.length=0) (.ret []) (.ob (bG (0+l.length) 16) (.ret l))
theorem aop (l:List ny)(h:l.length<=1048576):Is (av_ l):=
 is_clone (room_of aj aj)
def aqV:bi Z:=E2 [] [] (a1 (aLf cd_LSpan)) (shr [.slot 0 false [some 198]] (l1 cd_LSpan)) [] func109 1 av_ (fun a=>some (a.length<=1048576)) (fun a=>a) fun a h=>⟨aop a h,rfl⟩
def pEnum (e:eu):Pg eu:=.ob (e.Reserved.length<=1048576) (aL e.Items (.each false mg e.Items gQ (fun d b (a:eu)=> .ix d e.Items.length (.lt (abC b.Notes [97,108,105,97,115]) fun c=> .br c.2 (.ob (bG (a.Items.length+1) 48) (rl (eu.mk a.Name a.Open (a.Items++[Item.mk b.Name b.Num [Note.mk [97,108,105,97,115] c.1.re]]) a.Reserved a.Notes))) (.ob (bG (a.Items.length+1) 48) (rl (eu.mk a.Name a.Open (a.Items++[Item.mk b.Name b.Num []]) a.Reserved a.Notes))))) (fun d (a:eu)=> .ret a) (eu.mk e.Name e.Open [] e.Reserved [])))
def sJ (e:eu):=(pEnum e).val
theorem an5 (e:eu)(h:e.Reserved.length<=1048576/\e.Items.length<=1048576):gU (pEnum e) (fun r=>r.Items.length=e.Items.length/\r.Reserved=e.Reserved/\r.Name=e.Name):=
 ah (aj) (bZ <| bC (fun(b:Nat) a=>a.Items.length=b/\a.Reserved=e.Reserved/\a.Name=e.Name) dm aj (fun b a i d=>have c:a.Items.length=b/\a.Reserved=e.Reserved/\a.Name=e.Name:=d;aH aj aj (au fun g f=>bH (fun _=>ah (qa6) (af dm)) (fun _=>ah (qa6) (af dm)))) (fun a c=>have c:a.Items.length=e.Items.length/\a.Reserved=e.Reserved/\a.Name=e.Name:=c;af aj))
def azd:bi Z:=E1 [aqV,alj] [jS 3 (bD (fun b=>[s0 20, .cells (pid (b 3)) ayw]) (aJ cI agv)),jS 800001 (bD (fun b=>[.cells (pid (b 3)) ayw]) agv)] (a1 (aAgg cd_Enum)) (shr [.slot 0 true (nn 5)] agv) [] func59 1 pEnum (fun a=>a.Reserved.length<=1048576/\a.Items.length<=1048576) fun a h=>(an5 a h).1
def aHQ (x:aG)(t:zl):Pg Bool:=.ret (x.Name==t.Name)
def aBx (x:aG)(t:zl):=(aHQ x t).val
def auc:bi Z:=QF [] [] (aCons (aAgg cd_Message) Dn) azq hh2 [0] func166 1 (u11 aHQ)
def aEV:bi Z:=EIB [auc] vg 166 [0] azq func165 bT fun x b=>aBx x b
def aHx (x:eu)(t:zl):Pg Bool:=.ret (x.Name==t.Name)
def aCp (x:eu)(t:zl):=(aHx x t).val
def atb:bi Z:=QF [] [] (aCons (aAgg cd_Enum) Dn) azq hh2 [0] func168 1 (u11 aHx)
def aC3:bi Z:=EIB [atb] AO 168 [0] azq func167 dR fun x b=>aCp x b
def aaA (s:ax)(t:zl):Pg Int:=.br (t.Kind==10) (.ret (dO (fun(x:aG)=>aBx x t) s.Messages)) (.br (t.Kind==9) (.ret (dO (fun(x:eu)=>aCp x t) s.Enums)) (.ret (-1)))
def oz (s:ax)(t:zl):=(aaA s t).val
def an2:bi Z:=E0 [asy,aEV,auc,au2,aC3,atb] [] (aCons (aAgg cd_Schema) (a1 (aAgg Em))) jE [] func106 1 (u2 aaA)
def apa (s:ax)(m:aG)(o:Op):Prop:=∃f∈m.Fields,o.Kind=f.bV.Kind/\o.Card=f.Card/\o.Key=f.Key/\o.Target=oz s f.bV/\o.Alias=vW f.Notes/\o.Num=f.Num
theorem TR {s:ax}{m:aG}{l:List Op}(h:∀o∈l,apa s m o){f:aN}(b:f∈m.Fields){u:Int}:∀o∈l++[Op.mk f.Num f.Name (vW f.Notes) f.Card f.Key f.bV.Kind (oz s f.bV) u],apa s m o:=fun o a=>by
 rcases vO.1 a with a | a
 ·exact h o a
 ·rw[QZ.1 a];exact⟨f,b,rfl,rfl,rfl,rfl,rfl,rfl⟩
theorem fZ {A B:Type}{g:A->B}{l:List A}{i:Nat}{d:A}(a:i < l.length):(l.take (i+1)).map g=(l.take i).map g++[g (l.getD i d)]:=by
 rw[take_snoc (d:=d) a,Qct];rfl
def pProg (s:ax)(m:aG):Pg aX:=aL m.Fields (.each false mg m.Fields aB (fun f b (a:List Str×aX)=> .ix f m.Fields.length (.lt (oz s b.bV) fun d=> .lt (vW b.Notes) fun c=> .br (b.Union !=[]) (.br (!a.1.any fun(x:Str)=>b.Union==x) (.ob (bG (a.1.length+1) 16) (.ob (bG (a.2.Ops.length+1) 80) (.lt (a.1++[b.Union]) fun(e:List Str)=> rl (e, aX.mk a.2.Name (a.2.Ops++[Op.mk b.Num b.Name c b.Card b.Key b.bV.Kind d (dO (fun(x:Str)=>b.Union==x) e)]) a.2.Xj)))) (.ob (bG (a.2.Ops.length+1) 80) (rl (a.1, aX.mk a.2.Name (a.2.Ops++[Op.mk b.Num b.Name c b.Card b.Key b.bV.Kind d (dO (fun(x:Str)=>b.Union==x) a.1)]) a.2.Xj)))) (.ob (bG (a.2.Ops.length+1) 80) (rl (a.1,aX.mk a.2.Name (a.2.Ops++[Op.mk b.Num b.Name c b.Card b.Key b.bV.Kind d (-1)]) a.2.Xj))))) (fun f (a:List Str×aX)=> aL a.1 (.ret (aX.mk a.2.Name a.2.Ops (↑a.1.length:Int)))) ([],aX.mk m.Name [] 0))
def kN (s:ax)(m:aG):=(pProg s m).val
theorem ZA (s:ax)(m:aG)(h:m.Fields.length<=1048576):gU (pProg s m) (fun g=>g.Ops.length<=m.Fields.length/\g.Name=m.Name/\∀o∈g.Ops,apa s m o):=
 bZ <| bC (fun(b:Nat) a=>a.1.length<=b/\a.2.Ops.length<=b/\a.2.Name=m.Name/\∀o∈a.2.Ops,apa s m o) dm aj (fun b a n d=>have c:a.1.length<=b/\a.2.Ops.length<=b/\a.2.Name=m.Name/\∀o∈a.2.Ops,apa s m o:=d;aH aj aj (au fun k f=>au fun j i=>bH (fun _=>bH (fun _=>ah (qa6) (ah (qa6) (au fun l e=>af (by grind [TR,getD_mem])))) (fun _=>ah (qa6) (af (by grind [TR,getD_mem])))) (fun _=>ah (qa6) (af (by grind [TR,getD_mem]))))) (fun a c=>have c:a.1.length<=m.Fields.length/\a.2.Ops.length<=m.Fields.length/\a.2.Name=m.Name/\∀o∈a.2.Ops,apa s m o:=c;bZ <| af dm)
def ayh:bi Z:=E1 [awL,an2,alV,aCo] [jS 4 (bD (fun b=>[s0 16, .slot 6 false [some 9], .cells (pid (b 5)) ams]) (aJ cI (aJ cd_Lstr adY))),jS 800001 (bD (fun b=>[.cells (pid (b 5)) ams]) adY)] (aCons (aAgg cd_Schema) (a1 (aAgg cd_Message))) (shr [.slot 0 true (nn 3)] adY) [] func58 1 (u2 pProg) (fun a=>a.2.Fields.length<=1048576) fun a h=>(ZA a.1 a.2 h).1
def pMake (s:ax):Pg (aC×Int):=.ob (okS s) (.br (!jT s) (.ret (aC.mk [] [],1)) (.cut (fun(g:aC)=> aL s.Enums (.each false mg s.Enums dR (fun e c (a:aC)=> .ix e s.Enums.length (.ob (c.Reserved.length<=1048576/\c.Items.length<=1048576) (.ob (bG (a.Enums.length+1) 96) (rl (aC.mk a.Progs (a.Enums++[sJ c])))))) (fun e (a:aC)=> .ret (a,0)) g)) (aL s.Messages (.each false mg s.Messages bT (fun f d (b:aC)=> .ix f s.Messages.length (.ob (d.Fields.length<=1048576) (.ob (bG (b.Progs.length+1) 48) (rl (aC.mk (b.Progs++[kN s d]) b.Enums))))) (fun f (b:aC)=> rl b) (aC.mk [] [])))))
def nU (s:ax):=(pMake s).val
theorem Zg (s:ax)(h:okS s):gU (pMake s) (fun r=>r.2=0->jT s=true/\r.1=aC.mk (s.Messages.map (kN s)) (s.Enums.map sJ)):=
 have k:s.Messages.length<=150:=h.1;have m:s.Enums.length<=150:=h.2.1;ah (aj) (bH (fun _=>af aj) (fun _=>bg (fun f=>f=aC.mk (s.Messages.map (kN s)) []) (bZ <| bC (fun(e:Nat) c=>c=aC.mk ((s.Messages.take e).map (kN s)) []) (by rfl) aj (fun e c l i=>have hI:c=aC.mk ((s.Messages.take e).map (kN s)) []:=i;aH aj aj (ah (qaw) (ah (qa6) (af (by grind [fZ]))))) (fun c hI=>have hI:c=aC.mk ((s.Messages.take s.Messages.length).map (kN s)) []:=hI;af dm)) (fun f a=>have a:f=aC.mk (s.Messages.map (kN s)) []:=a;bZ <| bC (fun(d:Nat) b=>b=aC.mk (s.Messages.map (kN s)) ((s.Enums.take d).map sJ)) (by(rw[a];rfl)) aj (fun d b j g=>have hI:b=aC.mk (s.Messages.map (kN s)) ((s.Enums.take d).map sJ):=g;aH aj aj (ah (qaw) (ah (qa6) (af (by grind [fZ]))))) (fun b hI=>have hI:b=aC.mk (s.Messages.map (kN s)) ((s.Enums.take s.Enums.length).map sJ):=hI;af dm))))
def ayt:bi Z:=E1 [atI,ayh,azd] [jS 5 (bD (fun b=>[s0 16, .cells (pid (b 4)) aeS]) amr),jS 10 (bD (fun b=>[s0 32, .cells (pid (b 4)) aeS]) amr),jS 100009 (bD (fun b=>[.cells (pid (b 4)) aeS]) awR),jS 800003 (bD (fun b=>[.cells (pid (b 4)) aeS]) awR)] XI (shr ayZ (aJ cd_Plan iL)) [] func26 2 pMake (fun a=>okS a) fun a h=>(Zg a h).1
theorem afb {s:ax}(a:okS s)(h:(nU s).2=0):jT s=true/\(nU s).1=aC.mk (s.Messages.map (kN s)) (s.Enums.map sJ):=(Zg s a).2 h
theorem key_ok {b a:Int}(h:BZ b a=true)(c:b=5):sIsP a=true:=by
 subst c;unfold BZ abS at h;simp only[aF,ay]at h;by_cases d:1<=a
 ·by_cases e:a<=7
  ·unfold sIsP sIs;simp only[aF,ay]
   grind
  grind
 grind
theorem anB {s:ax}{t:zl}(h:(iD s t.Name).2=true)(a:t.Kind=10):0<=oz s t/\oz s t < s.Messages.length:=by
 have e:oz s t=dO (fun(x:aG)=>x.Name==t.Name) s.Messages:=by
  unfold oz aaA;simp only[aF,ay,a];rfl
 have b:=(jy (fun(x:aG)=>x.Name==t.Name) s.Messages).1
 grind [yU]
theorem aqx {s:ax}{f:aN}(h:F6 s f=true)(a:f.bV.Kind=10):(iD s f.bV.Name).2=true:=by
 unfold F6 acK at h;simp_all
theorem abb {s:ax}(c:okS s)(h:(nU s).2=0):planOk (nU s).1:=by
 obtain⟨q,e⟩:=afb c h;rw[e];intro g n;obtain⟨m,i,rfl⟩:=QH.1 n;have a:=c.2.2.2.1 m i;obtain⟨r,_,p⟩:=(ZA s m a.1).2;refine⟨Du r a.1,fun o l=> ?_⟩;obtain⟨f,k,u,t,j,v,_,w⟩:=p o l;obtain⟨f0,⟨f1,f2,f3⟩,f4⟩:=ZL q i k;refine⟨fun b=> ?_,fun d=> ?_,by omega⟩
 ·rw[u]at b;obtain⟨t1,t2⟩:=anB (aqx f4 b) b
  grind
 ·rw[t]at d;rw[j];exact key_ok f3 d
section
variable {A B Y Z R R' X:Type}
def abu (I:Y->Z->Prop)(Q:R->R'->Prop):Y⊕R->Z⊕R'->Prop
 | .inl y, .inl z=>I y z
 | .inr r, .inr s=>Q r s
 | _,_=>False
theorem Oo {c:Type}{I:X->c->Prop}{Q:R->R'->Prop}{a:X⊕R}{b:c⊕R'}{k:X->R}{d:c->R'}(h:abu I Q a b)(e:∀x y,I x y->Q (k x) (d y)):Q (thenS a k) (thenS b d):=by
 cases a<;>cases b
 ·exact e _ _ h
 ·exact h.elim
 ·exact h.elim
 ·exact h
theorem qf {b:Nat->A->Y->Y⊕R}{f:Nat->Y->R}{m:Nat->B->Z->Z⊕R'}{t:Nat->Z->R'}{d:A}{d':B}(I:Nat->Y->Z->Prop)(Q:R->R'->Prop):∀(l:List A) (g:List B) (k:Nat) (y:Y) (z:Z),l.length=g.length->I k y z->
  (∀j y z,j < l.length->I (k+j) y z->abu (I (k+j+1)) Q (b (k+j) (l.getD j d) y) (m (k+j) (g.getD j d') z))->
  (∀y z,I (k+l.length) y z->Q (f (k+l.length) y) (t (k+l.length) z))->Q (iH b f l k y) (iH m t g k z)
 | [],[],k,y,z,_,n,_,p=>p y z n
 | a::l,c::g,k,y,z,w,n,u,p=>by
  have e:=u 0 y z jQ n;simp only[XE,show(a::l).getD 0 d=a from rfl,show(c::g).getD 0 d'=c from rfl]at e;unfold iH;cases i:b k a y with
  | inl v=>cases h:m k c z with
   | inl o=>
    rw[i,h]at e;refine qf (d:=d) (d':=d') I Q l g (k+1) v o (by simpa using w) e (fun j y z C x=> ?_) (fun y z x=> ?_)
    ·have q:=u (j+1) y z vH
     grind
    grind
   | inr s=>rw[i,h]at e;exact e.elim
  | inr r=>cases h:m k c z with
   | inl o=>rw[i,h]at e;exact e.elim
   | inr s=>rw[i,h]at e;exact e
theorem aak {b:Nat->A->Y->Y⊕R}{f:Nat->Y->R}{c:Int->Y->Y⊕R}{g:Int->Y->R}{d:A}:∀(l:List A) (k:Nat) (y:Y),(∀j y,j < l.length->b (k+j) (l.getD j d) y=c ↑(k+j) y)->(∀y,f (k+l.length) y=g ↑(k+l.length) y)->iH b f l k y=lu c g l.length ↑k y
 | [],k,y,_,i=>i y
 | a::l,k,y,m,i=>by
  have h:=m 0 y jQ;simp only[XE,show(a::l).getD 0 d=a from rfl]at h;unfold iH;show _=lu c g (l.length+1) ↑k y
  unfold lu;rw[h];cases c ↑k y with
  | inr r=>rfl
  | inl n=>
   have e:((k:Nat):Int)+1=↑(k+1):=by omega
   dsimp only;rw[e];refine aak (d:=d) l (k+1) n (fun j y o=> ?_) (fun y=> ?_)
   ·have q:=m (j+1) y vH
    grind
   grind
end
section
theorem V8 {c:UInt8}:∀{v:List UInt8},(∀x∈v,(x==c)=false)->fJ c v=[v]
 | [],_=>rfl
 | x::v,h=>by rw[Ai (h x jQ),V8 fun y a=>h y (by simp[a])]
theorem Ua {c:UInt8}{v:List UInt8}(a:∀x∈v,(x==c)=false):∀u:List UInt8,fJ c (u++c::v)=fJ c u++[v]
 | []=>by grind [V8,Cf]
 | x::u=>by
  have b:=Ua a u
  grind [MN,Ai,Cf]
end
theorem ar8 (b:Nat):b &&& 9218868437227405312=((b / 2 ^ 52) % 2 ^ 11)*2 ^ 52:=by
 have e:(9218868437227405312:Nat)=(2 ^ 11 - 1) <<< 52:=by decide
 rw[e,<-Nat.shiftLeft_eq];apply Qd2;intro i;rw[Nat.testBit_and,Nat.testBit_shiftLeft,Nat.testBit_shiftLeft,Nat.testBit_mod_two_pow,Nat.testBit_two_pow_sub_one,Nat.testBit_div_two_pow]
 grind
theorem aFV (b:Nat)(h:b < 2 ^ 64):(b &&& 9218868437227405312=9218868437227405312/\¬(b &&& 4503599627370495=0)) ↔ 9218868437227405312 < b % 9223372036854775808:=by
 have a:b &&& 4503599627370495=b % 2 ^ 52:=Qc3 b 52;rw[ar8,a];omega
def alB (c:UInt8)(s:List UInt8)(r:List UInt8×List UInt8):Prop:=
 (r.1=[]/\r.2=s/\∀x∈s,(x==c)=false)\/(s=r.1++c::r.2/\∀x∈r.2,(x==c)=false)
theorem DJ {c:UInt8}{isW:List UInt8->Bool}{sp:List UInt8->List UInt8×List UInt8}(d:isW []=false)(f:∀y,y.length<=120->alB c y (sp y)){b:Int->List UInt8->List UInt8⊕Bool}
  (g:∀i y,b i y=bif y==[]then .inr true else bif isW (sp y).2 then .inr false else .inl (sp y).1):∀(n:Nat) (i:Int) (y:List UInt8),y.length<=n->n<=120->lu b (fun _ _=>true) n i y= !(fJ c y).any isW
 | 0,i,[],_,_=>by simp[lu,fJ,d]
 | n+1,i,y,h,p=>by
  unfold lu;rw[g];cases y with
  | nil=>simp[fJ,d]
  | cons a y=>
   have e:((a::y)==[])=false:=rfl;rw[e,lL];generalize r:a::y=w at*;rcases f w aj with⟨j,l,o⟩ | ⟨j,l⟩
   ·rw[j,l,V8 o];cases k:isW w with
    | true=>simp[k]
    | false=>
     have q:=DJ (c:=c) d f g n (i+1) [] jQ aj;simp only[lL];rw[q];simp[fJ,d,k]
   ·have m:(sp w).1.length<=n:=by
     grind
    have q:=DJ (c:=c) d f g n (i+1) (sp w).1 m aj
    grind [Ua]
theorem axS {c:UInt8}{s:List UInt8}{step:Int->Int⊕(List UInt8×List UInt8)}(a:∀x:Int,-1<=x->x < s.length->step x=bif decide (0<=x)then bif s.getD x.toNat 0==c then .inr (s.take x.toNat,s.drop (x.toNat+1))else .inl (x - 1)else .inr ([],s))(m:List UInt8×List UInt8)(n:Nat)(q:s.length < n):
  alB c s (Dy step m n ((s.length:Int) - 1)):=by
 refine JF (fun(x:Int)=> -1<=x/\x < s.length/\∀j:Nat,x < j->j < s.length->(s.getD j 0==c)=false) (fun(x:Int)=>(x+1).toNat) (fun r=>alB c s r) (fun x d=> ?_) n ((s.length:Int) - 1) ⟨by omega,by omega,fun j g h=>by omega⟩ aj;obtain⟨g,h,t⟩:=d;rw[a x g h];by_cases b:0<=x
 ·rw[wz b,cond_true];obtain⟨k,rfl⟩:=Qa0 b;simp only[qA];cases d:s.getD k 0==c with
  | true=>
   refine .inr ⟨_,rfl, .inr ⟨?_,fun x f=> ?_⟩⟩
   ·have p:k < s.length:=by omega
    have o:s.getD k 0=c:=eq_of_beq d;have e:s.getD k 0=s[k]:=by grind
    rw[<-o,e];simp
   ·obtain⟨i,l,rfl⟩:=Qbu.1 f
    grind
  | false=>
   grind
 ·rw[pO b,lL];refine .inr ⟨_,rfl, .inl ⟨rfl,rfl,fun y f=> ?_⟩⟩;obtain⟨i,l,rfl⟩:=Qbu.1 f
  grind
section
variable {α:Type}[DecidableEq α]
abbrev nM (a:Type):=List (a×((a->Bool)->Bool))
def Ux (X:α->Bool)(n:α):α->Bool:=fun a=>decide (a=n) || X a
def qP (X:α->Bool)(r:α×((α->Bool)->Bool)):α->Bool:=bif r.2 X then Ux X r.1 else X
def mO (R:nM α)(X:α->Bool):α->Bool:=R.foldl qP X
def LeB (X Y:α->Bool):Prop:=∀a,X a=true->Y a=true
def amT (R:nM α):Prop:=∀r∈R,∀X Y,LeB X Y->r.2 X=true->r.2 Y=true
def RG (R:nM α)(C:α->Bool):Prop:=∀r∈R,r.2 C=true->C r.1=true
theorem ae2 (X:α->Bool)(r:α×((α->Bool)->Bool)):LeB X (qP X r):=fun a h=>by
 unfold qP;cases r.2 X<;>simp[Ux,h]
theorem KR:∀(R:nM α) (X:α->Bool),LeB X (mO R X)
 | [],X=>fun a h=>h
 | r::R,X=>fun a h=>KR R (qP X r) a (ae2 X r a h)
theorem O4 {R:nM α}{C:α->Bool}(g:amT R)(f:RG R C):∀(c:nM α) (X:α->Bool),(∀r∈c,r∈R)->LeB X C->LeB (mO c X) C
 | [],X,_,h=>h
 | r::c,X,d,h=>by
  refine O4 g f c (qP X r) (fun q i=>d q (by simp[i])) fun a b=> ?_;unfold qP at b;cases e:r.2 X with
  | false=>rw[e]at b;exact h a b
  | true=>
   rw[e]at b;simp only[cond_true,Ux,Qbi,Xh]at b;rcases b with rfl | b
   ·exact f r (d r jQ) (g r (d r jQ) X C h e)
   ·exact h a b
theorem ZU:∀(R:nM α) (X:α->Bool),LeB (mO R X) X->RG R X
 | [],X,_=>fun r g=>by cases g
 | r::R,X,h=>by
  have e:qP X r=X:=funext fun a=>by
   cases b:X a with
   | true=>exact ae2 X r a b
   | false=>
    cases d:qP X r a with
    | false=>rfl
    | true=>rw[h a (KR R _ a d)]at b;cases b
  have f:LeB (mO R X) X:=by
   have k:mO (r::R) X=mO R (qP X r):=rfl
   grind
  intro q c b;rcases yw.1 c with rfl | c
  ·rw[<-e];unfold qP;rw[b];simp[Ux]
  ·exact ZU R X f q c b
def Xa (R:nM α)(X:α->Bool):Nat:=R.countP fun r=>X r.1
end
section
variable {α:Type}
theorem axA (R:nM α)(X:α->Bool):Xa R X<=R.length:=List.countP_le_length
theorem cnt_mono {R:nM α}{X Y:α->Bool}(h:LeB X Y):Xa R X<=Xa R Y:=List.countP_mono_left fun r _ a=>h _ a
theorem cnt_lt {X Y:α->Bool}(h:LeB X Y):∀{R:nM α} {r:α×((α->Bool)->Bool)},r∈R->X r.1=false->Y r.1=true->Xa R X < Xa R Y
 | q::R,r,a,c,d=>by
  have m:=cnt_mono (R:=R) h;unfold Xa at m⊢;rw[List.countP_cons,List.countP_cons];rcases yw.1 a with rfl | a
  ·grind
  ·have l:=cnt_lt h a c d;unfold Xa at l;have k:(if X q.1=true then 1 else 0)<=(if Y q.1=true then 1 else 0):=by
    by_cases b:X q.1=true
    ·rw[vJ b,vJ (h _ b)];omega
    grind
   omega
end
section
variable {α:Type}[DecidableEq α]
theorem auh {X:α->Bool}{r:α×((α->Bool)->Bool)}{a:α}(h:qP X r a=true)(b:X a=false):a=r.1:=by
 unfold qP at h;cases c:r.2 X with
 | false=>grind
 | true=>
  rw[c]at h;simp only[cond_true,Ux,Qbi,Xh,b,Qbt,or_false]at h;exact h
theorem adC:∀(R:nM α) (X:α->Bool) (a:α),mO R X a=true->X a=false->∃r∈R,r.1=a
 | [],X,a,h,b=>by rw[show X a=true from h]at b;cases b
 | r::R,X,a,h,b=>by
  cases c:qP X r a with
  | true=>exact⟨r,by simp,(auh c b).symm⟩
  | false=>
   obtain⟨q,d,e⟩:=adC R (qP X r) a h c
   grind
theorem aoP {R:nM α}{X:α->Bool}(h:¬LeB (mO R X) X):Xa R X < Xa R (mO R X):=by
 obtain⟨a,d⟩:∃a,¬(mO R X a=true->X a=true):=Classical.not_forall.1 h;have b:mO R X a=true:=Classical.byContradiction fun k=>d fun q=>absurd q k
 have c:X a=false:=by grind
 obtain⟨r,f,e⟩:=adC R X a b c;subst e;exact cnt_lt (KR R X) f c b
def xw (R:nM α):Nat->(α->Bool)->(α->Bool)
 | 0,X=>X
 | n+1,X=>xw R n (mO R X)
theorem ayd {R:nM α}{X:α->Bool}(h:LeB (mO R X) X):mO R X=X:=funext fun a=>by
 cases b:X a with
 | true=>exact KR R X a b
 | false=>cases c:mO R X a with
  | false=>rfl
  | true=>rw[h a c]at b;cases b
theorem Ob {R:nM α}{X:α->Bool}(h:LeB (mO R X) X):∀n,xw R n X=X
 | 0=>rfl
 | n+1=>by unfold xw;rw[ayd h];exact Ob h n
theorem CB {R:nM α}:∀(n:Nat) (X:α->Bool),R.length<=n+Xa R X->RG R (xw R n X)
 | 0,X,h=>fun r b _=>by
  have k:=axA R X;exact List.countP_eq_length.1 (show R.countP (fun r=>X r.1)=R.length from by unfold Xa at*;omega) r b
 | n+1,X,h=>by
  by_cases a:LeB (mO R X) X
  ·rw[Ob a];exact ZU R X a
  ·have k:=aoP a;exact CB n (mO R X) aj
theorem Ef {R:nM α}{C:α->Bool}(b:amT R)(a:RG R C):∀(n:Nat) (X:α->Bool),LeB X C->LeB (xw R n X) C
 | 0,X,h=>h
 | n+1,X,h=>Ef b a n _ (O4 b a R X (fun _ h=>h) h)
end
section
variable {A S:Type}
theorem not_any {l:List S}{f g:S->Bool}:(!l.any fun n=>f n && !g n)=true ↔ ∀n∈l,f n=true->g n=true:=by
 grind
def Nz (M:List A)(a:A->S)(d:A->List S)(b:S->Bool)(c:S->A):nM S:=M.map fun m=>(a m,fun X=> !(d (c (a m))).any fun n=>b n && !X n)
def IA (c:Nat)(a:Nat->A)(d:A->List S)(b:S->Bool)(e:S->Nat):nM Nat:=(List.range c).map fun i=>(i,fun X=> !(d (a i)).any fun n=>b n && !X (e n))
theorem aHh (M:List A)(e:A->S)(g:A->List S)(b:S->Bool)(c:S->A):amT (Nz M e g b c):=by
 intro r i X Y a h;obtain⟨m,_,rfl⟩:=QH.1 i;exact not_any.2 fun n f d=>a n (not_any.1 h n f d)
theorem aG7 (e:Nat)(c:Nat->A)(k:A->List S)(d:S->Bool)(a:S->Nat):amT (IA e c k d a):=by
 intro r l X Y b h;obtain⟨i,_,rfl⟩:=QH.1 l;exact(not_any (g:=fun n=>Y (a n))).2 fun n j f=>b _ ((not_any (g:=fun n=>X (a n))).1 h n j f)
end
section
variable {A S:Type}[DecidableEq S]
theorem apb (M:List A)(d:A)(g:A->S)(j:A->List S)(c:S->Bool)(f:S->Nat)(l:S->A)
  (z:∀n,c n=true->f n < M.length/\g (M.getD (f n) d)=n) (C:∀i,i < M.length->c (g (M.getD i d))=true)
  (K:∀n,c n=true->l n=M.getD (f n) d) (a b:Nat) (L:M.length<=a) (J:M.length<=b) (n:S) (I:c n=true):
  xw (Nz M g j c l) a (fun _=>false) n=xw (IA M.length (fun i=>M.getD i d) j c f) b (fun _=>false) (f n):=by
 have u:=CB (R:=Nz M g j c l) a (fun _=>false) (by unfold Nz;grind);have v:=CB (R:=IA M.length (fun i=>M.getD i d) j c f) b (fun _=>false) (by unfold IA;grind);generalize x:xw (Nz M g j c l) a (fun _=>false)=F at u;generalize B:xw (IA M.length (fun i=>M.getD i d) j c f) b (fun _=>false)=G at v;have E:LeB F (fun n=> !c n || G (f n)):=by
  rw[<-x];refine Ef (aHh M g j c l) (fun r s h=> ?_) a _ (fun _ h=>by cases h);obtain⟨m,H,rfl⟩:=QH.1 s;obtain⟨i,o,rfl⟩:=Qbu.1 H;have e:M[i]=M.getD i d:=by grind
  have t:=C i o;rw[<-e]at t;dsimp only at h⊢;rw[t,Qbv,Qd0];have w:=(z _ t).1;refine v (f (g M[i]),fun X=> !(j (M.getD (f (g M[i])) d)).any fun n=>c n && !X (f n)) (QH.2 ⟨f (g M[i]),Qcd.2 w,rfl⟩) ?_
  grind
 have D:LeB G (fun i=>decide (i≠f (g (M.getD i d))) || F (g (M.getD i d))):=by
  rw[<-B];refine Ef (aG7 M.length (fun i=>M.getD i d) j c f) (fun r s h=> ?_) b _ (fun _ h=>by cases h);obtain⟨i,o,rfl⟩:=QH.1 s;have o:=Qcd.1 o;dsimp only at h⊢;by_cases p:i=f (g (M.getD i d))
  ·rw[pO (fun k=>k p),Qd0];have e:M[i]=M.getD i d:=by grind
   refine u (g (M.getD i d),fun X=> !(j (l (g (M.getD i d)))).any fun n=>c n && !X n) (QH.2 ⟨M.getD i d,e▸List.getElem_mem o,rfl⟩) ?_
   grind
  grind
 cases p:F n with
 | true=>
  have q:(!c n || G (f n))=true:=E n p
  grind
 | false=>
  cases y:G (f n)with
  | false=>rfl
  | true=>
   have q:(decide (f n≠f (g (M.getD (f n) d))) || F (g (M.getD (f n) d)))=true:=D _ y
   grind
end
section
variable {A B Y Z R R' X:Type}
theorem F8 {b:Nat->A->Unit->Unit⊕R}{f:Nat->Unit->R}{p:A->Bool}{g:Nat->R}{z:R}:∀(l:List A) (k:Nat),(∀j a,l[j]? =some a->b (k+j) a ()=bif p a then .inr (g (k+j))else .inl ())->f (k+l.length) ()=z->iH b f l k ()=bif decide (0<=mY p l k)then g (mY p l k).toNat else z
 | [],k,_,c=>c
 | a::l,k,e,c=>by
  have d:=e 0 a rfl;unfold iH mY;rw[XE]at d;rw[d];cases p a with
  | true=>simp
  | false=>exact F8 l (k+1) (fun j a h=>by rw[Qe,Qdt 1 j];simp_all) dm
def avD (p:Nat->A->Bool):List A->Nat->Bool
 | [],_=>false
 | a::l,k=>p k a || avD p l (k+1)
def Yp (g:Nat->A->Y->Y):List A->Nat->Y->Y
 | [],_,y=>y
 | a::l,k,y=>Yp g l (k+1) (g k a y)
theorem YL {b:Nat->A->Y->Y⊕R}{f:Nat->Y->R}{p:Nat->A->Bool}{g:Nat->A->Y->Y}{r:R}:∀(l:List A) (k:Nat) (y:Y),(∀j a y,l[j]? =some a->b (k+j) a y=bif p (k+j) a then .inr r else .inl (g (k+j) a y))->iH b f l k y=bif avD p l k then r else f (k+l.length) (Yp g l k y)
 | [],k,y,_=>rfl
 | a::l,k,y,d=>by
  have c:=d 0 a y rfl;unfold iH avD Yp;rw[XE]at c;rw[c];cases p k a with
  | true=>rfl
  | false=>
   have q:=YL (f:=f) l (k+1) (g k a y) (fun j a y h=>by rw[Qe,Qdt 1 j];exact d (j+1) a y h)
   grind
theorem agh (p:A->Bool):∀(l:List A) (k:Nat),avD (fun _ a=>p a) l k=l.any p
 | [],_=>rfl
 | a::l,k=>by unfold avD;rw[Qda,agh p l (k+1)]
theorem YC (p:A->Bool)(n:Nat):∀(l:List A) (k:Nat) (y:Bool),Yp (fun j a y=>bif decide (j < n)then bif p a then true else y else y) l k y=(y || (l.take (n - k)).any p)
 | [],k,y=>by simp[Yp]
 | a::l,k,y=>by
  unfold Yp;rw[YC p n l (k+1)];by_cases h:k < n
  ·rw[wz h,cond_true,show n - k=(n - (k+1))+1 by omega,Qck,Qda]
   grind
  ·rw[pO h,lL,show n - k=0 by omega,show n - (k+1)=0 by omega];simp
theorem agF {A Y c:Type}[DecidableEq c]{abs:Y->c->Bool}{I:Y->Prop}{g:Y->A->Y}{r:A->c×((c->Bool)->Bool)}:∀(l:List A) (y:Y),I y->(∀a∈l,∀y,I y->I (g y a)/\abs (g y a)=qP (abs y) (r a))->I (l.foldl g y)/\abs (l.foldl g y)=mO (l.map r) (abs y)
 | [],y,d,_=>⟨d,rfl⟩
 | a::l,y,d,h=>by
  have e:=h a jQ y d;have q:=agF l (g y a) e.1 fun b f=>h b (by simp[f])
  refine⟨q.1,?_⟩;show abs (l.foldl g (g y a))=mO (l.map r) (qP (abs y) (r a))
  rw[q.2,e.2]
theorem aAu (l:List (List UInt8×Bool))(k:List UInt8):(fun n=>kX false (nS l k true) n)=Ux (fun n=>kX false l n) k:=funext fun n=>by
 rw[apY];unfold Ux
 grind
theorem azC (l:List Bool)(i:Nat)(h:i < l.length):(fun n=>(l.set i true).getD n false)=Ux (fun n=>l.getD n false) i:=funext fun n=>by
 unfold Ux
 grind
theorem ajz {b:Type}[DecidableEq b](X:b->Bool)(i:b)(h:X i=true):Ux X i=X:=funext fun a=>by
 unfold Ux;simp_all
end
section
variable {A B Y Z R R' X:Type}
def Zf (g:Y->Y):Nat->Y->Y
 | 0,y=>y
 | n+1,y=>Zf g n (g y)
theorem YY {b:Int->Y->Y⊕R}{f:Int->Y->R}{g:Y->Y}(a:∀i y,b i y= .inl (g y)):∀(n:Nat) (i:Int) (y:Y),lu b f n i y=f (i+n) (Zf g n y)
 | 0,i,y=>by show f i y=f (i+((0:Nat):Int)) y;grind
 | n+1,i,y=>by
  unfold lu Zf;rw[a];dsimp only;rw[YY a n (i+1) (g y),show i+1+(n:Int)=i+((n+1:Nat):Int) by omega]
theorem af6 {a:Type}[DecidableEq a]{abs:Y->a->Bool}{I:Y->Prop}{g:Y->Y}{c:nM a}(b:∀y,I y->I (g y)/\abs (g y)=mO c (abs y)):∀(n:Nat) (y:Y),I y->abs (Zf g n y)=xw c n (abs y)
 | 0,y,_=>rfl
 | n+1,y,d=>by
  have h:=b y d;unfold Zf xw;rw[af6 b n (g y) h.1,h.2]
theorem afy {e:Type}[DecidableEq e]{abs:Y->e->Bool}{I:Y->Prop}{g:Y->Bool×Y}{Rs:nM e}{b:Int->Bool×Y->(Bool×Y)⊕R}{f:Int->Bool×Y->R}{F:Y->R}(l:∀i m y,I y->b i (m,y)=bif m then .inl (g y)else .inr (F y))(j:∀i m y,f i (m,y)=F y)
  (k:∀y,I y->I (g y).2/\abs (g y).2=mO Rs (abs y)/\((g y).1=false->abs (g y).2=abs y)):∀(n:Nat) (i:Int) (m:Bool) (y:Y),I y->(m=false->mO Rs (abs y)=abs y)->∃c,lu b f n i (m,y)=F c/\I c/\abs c=xw Rs n (abs y)
 | 0,i,m,y,d,_=>⟨y,j i m y,d,rfl⟩
 | n+1,i,m,y,d,s=>by
  unfold lu;rw[l i m y d];cases m with
  | false=>
   refine⟨y,rfl,d,?_⟩;rw[Ob (fun a h=>by simp_all)]
  | true=>
   obtain⟨p,t,u⟩:=k y d;obtain⟨c,r,q,o⟩:=afy l j k n (i+1) (g y).1 (g y).2 p fun s=>by
    grind
   refine⟨c,r,q,?_⟩;rw[o,t];rfl
theorem G9 {A c:Type}[DecidableEq c]{abs:Y->c->Bool}{I:Y->Prop}{g:Bool×Y->A->Bool×Y}{r:A->c×((c->Bool)->Bool)}:∀(l:List A) (m:Bool) (y:Y),I y->(∀a∈l,∀m y,I y->I (g (m,y) a).2/\abs (g (m,y) a).2=qP (abs y) (r a)/\((g (m,y) a).1=false->m=false/\abs (g (m,y) a).2=abs y))->
  I (l.foldl g (m,y)).2/\abs (l.foldl g (m,y)).2=mO (l.map r) (abs y)/\((l.foldl g (m,y)).1=false->m=false/\abs (l.foldl g (m,y)).2=abs y)
 | [],m,y,d,_=>⟨d,rfl,fun h=>⟨h,rfl⟩⟩
 | a::l,m,y,d,h=>by
  obtain⟨e,p,n⟩:=h a jQ m y d;obtain⟨f,k,j⟩:=G9 l (g (m,y) a).1 (g (m,y) a).2 e fun b i=>h b (by simp[i])
  refine⟨f,?_,fun o=> ?_⟩
  ·show abs (l.foldl g (g (m,y) a)).2=mO (l.map r) (qP (abs y) (r a))
   grind
  grind
end
def vN (v:ae):Prop:=0<=v.Bits/\v.Bits < 18446744073709551616/\v.Text.length<=1048576/\v.List.length<=1048576/\v.Pairs.length<=1048576/\v.Slots.length<=1048576/\v.Raws.length<=1048576
theorem akO (s:Str):EX s=FX s:=rfl
theorem aer (k:Int):EZ k=xC k:=rfl
theorem ac1 (k:Int):sIsP k=G6 k:=rfl
theorem ale (v:ae):vY v=decide ((v.List.length:Int)+v.Pairs.length+v.Slots.length+v.Raws.length=0):=by
 unfold vY r4lone;simp only[aF,ay,Z8,Qbw]
 grind
theorem ak5 (v:ae)(h:vN v):acl v=(bif vY v then bif xC v.Kind then v.Bits==0 else v.Text==[]else false):=by
 obtain⟨_,_,_,a,c,d,b⟩:=h;have w:∀x:Int,0<=x->x<=16777216->aQ .i64 x=x:=fun x _ _=>bn (k:= .i64) kM
 unfold acl atK;simp only[dW,aT,aF,ay,aer]
 grind [ale]
theorem TT (k:Int)(v:ae)(h:vN v):NK k v=ut k v:=by
 unfold NK auA ut r4fits;simp only[aF,ay,aV,aT,ae.bJ,ak5 v h,akO,ac1];cases G6 k with
 | false=>rfl
 | true=>
  cases a:v.Kind !=k with
  | true=>rfl
  | false=>
   have a:v.Kind=k:=by simpa using a
   cases vY v with
   | false=>rfl
   | true=>
    unfold afG abH xC r4texts;simp only[aF,ay,aT,a,Qbv,lL,cond_true]
    grind
theorem aew (b:Int)(d:0<=b)(e:b < 18446744073709551616):(EY b==0)=(Aw b==0):=by
 obtain⟨n,rfl⟩:=Qa0 d;have a:n < 2 ^ 64:=by omega
 have a1:nT .u64 (n:Int) 9218868437227405312=((n &&& 9218868437227405312:Nat):Int):=Am (k:= .u64) rfl a dH;have a2:nT .u64 (n:Int) 4503599627370495=((n &&& 4503599627370495:Nat):Int):=Am (k:= .u64) rfl a dH;have c:=aFV n a;have m:(n:Int).tmod 9223372036854775808=((n % 9223372036854775808:Nat):Int):=rfl;unfold EY ah5 Aw r4class;simp only[aF,ay,aV,a1,a2,m,Z8,Qbw,Qdp,Xh,ne_eq]
 grind
theorem Q9 (v:ae)(h:vN v):jo v=jU v:=by
 unfold jo aev jU r4norm;simp only[aF,ay,aew v.Bits h.1 h.2.1]
theorem aHX (v:ae)(h:vN v)(w:ae)(b:w.List.length=v.List.length/\w.Pairs.length=v.Pairs.length/\w.Slots.length=v.Slots.length/\w.Raws.length=v.Raws.length):Bh v w=(v.Kind==w.Kind && (v.Bits==w.Bits && (v.Text==w.Text && vY v))):=by
 obtain⟨_,_,_,a,e,f,d⟩:=h;have c:∀x:Int,0<=x->x<=16777216->aQ .i64 x=x:=fun x _ _=>bn (k:= .i64) kM
 unfold Bh r9same;simp only[dW,aF,ay]
 grind [ale]
theorem MQ:kL=[([100,101,112,114,101,99,97,116,101,100],⟨1,126⟩),([100,111,99],⟨7,126⟩),([97,108,105,97,115],⟨7,84⟩),([115,105,110,99,101],⟨4,84⟩),([117,110,116,105,108],⟨4,84⟩),([109,105,110],⟨3,4⟩),([109,97,120],⟨3,4⟩),([108,101,110,103,116,104],⟨4,4⟩),([115,101,99,114,101,116],⟨1,4⟩),([105,100,101,109,112,111,116,101,110,116],⟨1,64⟩),([116,105,109,101,111,117,116],⟨4,64⟩),([114,111,117,116,101],⟨7,64⟩),([111,119,110,101,114],⟨7,34⟩)]:=rfl
theorem akX {Q:Str->Prop}(b:∀p∈kL,Q p.1)(a:∀n,(∀p∈kL,n≠p.1)->Q n)(n:Str):Q n:=by
 grind
theorem aCh {Q:Str×eU->Prop}(f:Q ([100,101,112,114,101,99,97,116,101,100],⟨1,126⟩))(n:Q ([100,111,99],⟨7,126⟩))(m:Q ([97,108,105,97,115],⟨7,84⟩))(j:Q ([115,105,110,99,101],⟨4,84⟩))(h:Q ([117,110,116,105,108],⟨4,84⟩))(l:Q ([109,105,110],⟨3,4⟩))(g:Q ([109,97,120],⟨3,4⟩))(i:Q ([108,101,110,103,116,104],⟨4,4⟩))(k:Q ([115,101,99,114,101,116],⟨1,4⟩))(c:Q ([105,100,101,109,112,111,116,101,110,116],⟨1,64⟩))(d:Q ([116,105,109,101,111,117,116],⟨4,64⟩))(e:Q ([114,111,117,116,101],⟨7,64⟩))(b:Q ([111,119,110,101,114],⟨7,34⟩)):∀p∈kL,Q p:=by
 intro p a;rw[MQ]at a;simp only[yw,Qbe,or_false]at a;rcases a with rfl | rfl | rfl | rfl | rfl | rfl | rfl | rfl | rfl | rfl | rfl | rfl | rfl<;>assumption
theorem aAO {n:Str}(h:∀p∈kL,n≠p.1):n≠[100,101,112,114,101,99,97,116,101,100]/\n≠[100,111,99]/\n≠[97,108,105,97,115]/\n≠[115,105,110,99,101]/\n≠[117,110,116,105,108]/\n≠[109,105,110]/\n≠[109,97,120]/\n≠[108,101,110,103,116,104]/\n≠[115,101,99,114,101,116]/\n≠[105,100,101,109,112,111,116,101,110,116]/\n≠[116,105,109,101,111,117,116]/\n≠[114,111,117,116,101]/\n≠[111,119,110,101,114]:=by
 rw[MQ]at h;simp_all
theorem kind_other {n:Str}(h:∀p∈kL,n≠p.1):Nh n=0/\nP n=0/\yx kL n=false:=by
 obtain⟨e,m,o,j,g,l,f,i,k,b,c,d,a⟩:=aAO h;refine⟨?_,?_,?_⟩
 ·unfold Nh awo;simp only[ay,MQ,kX,e,m,o,j,g,l,f,i,k,b,c,d,a,if_false];rfl
 ·unfold nP r8kind;simp only[dn,aF,ay,beq_eq_false_iff_ne.2 e,beq_eq_false_iff_ne.2 m,beq_eq_false_iff_ne.2 o,beq_eq_false_iff_ne.2 j,beq_eq_false_iff_ne.2 g,beq_eq_false_iff_ne.2 l,beq_eq_false_iff_ne.2 f,beq_eq_false_iff_ne.2 i,beq_eq_false_iff_ne.2 k,beq_eq_false_iff_ne.2 b,beq_eq_false_iff_ne.2 c,beq_eq_false_iff_ne.2 d,beq_eq_false_iff_ne.2 a,lL,eP]
 ·unfold yx
  grind
theorem Iu:∀p∈kL,Nh p.1=p.2.kind/\nP p.1=p.2.kind/\p.2.kind≠0/\yx kL p.1=true/\(kX jh.z kL p.1)=p.2:=
 aCh ⟨rfl,rfl,by decide,rfl,rfl⟩ ⟨rfl,rfl,by decide,rfl,rfl⟩ ⟨rfl,rfl,by decide,rfl,rfl⟩ ⟨rfl,rfl,by decide,rfl,rfl⟩ ⟨rfl,rfl,by decide,rfl,rfl⟩ ⟨rfl,rfl,by decide,rfl,rfl⟩ ⟨rfl,rfl,by decide,rfl,rfl⟩ ⟨rfl,rfl,by decide,rfl,rfl⟩ ⟨rfl,rfl,by decide,rfl,rfl⟩ ⟨rfl,rfl,by decide,rfl,rfl⟩ ⟨rfl,rfl,by decide,rfl,rfl⟩ ⟨rfl,rfl,by decide,rfl,rfl⟩ ⟨rfl,rfl,by decide,rfl,rfl⟩
theorem ajR (t:Int)(a:t=1\/t=2\/t=3\/t=4\/t=5\/t=6):∀p∈kL,(nT .i64 (lN .i64 p.2.targets t) (1:Int)==0)= !EQ p.1 t:=by
 rcases a with rfl | rfl | rfl | rfl | rfl | rfl<;>exact aCh rfl rfl rfl rfl rfl rfl rfl rfl rfl rfl rfl rfl rfl
theorem right_eq (n:Note)(h:vN n.Val):abX n=uV n:=by
 have c:Nh n.Name=nP n.Name:=akX (Q:=fun m=>Nh m=nP m) (fun p a=>(Iu p a).1.trans (Iu p a).2.1.symm) (fun m b=>(kind_other b).1.trans (kind_other b).2.1.symm) n.Name;unfold abX aie uV r8right;simp only[aT,aF,ay,ae.bJ,c,TT _ _ h];cases nP n.Name !=0 with
 | false=>rfl
 | true=>
  cases d:n.Val.Kind==nP n.Name with
  | true=>rfl
  | false=>
   have:(n.Val.Kind !=nP n.Name)=true:=by grind
   unfold ut r4fits;simp_all
def UB (l:List Note):Prop:=∀n∈l,vN n.Val
theorem aEG (n:Note)(h:vN n.Val)(t:Int)(f:t=1\/t=2\/t=3\/t=4\/t=5\/t=6)(a:Str)(b:Bool):atX n t a b=(bif nP n.Name==0 then 8 else bif !EQ n.Name t then 1 else bif !uV n then 12 else bif b then bif Op.bytesLess n.Name a then 11 else bif n.Name==a then 9 else 0 else 0):=by
 have t1:¬t < 1:=by omega
 have t6:¬(6:Int) < t:=by omega
 unfold atX aEM;simp only[aF,dn,ay,aV,ae.bJ,right_eq n h,pO t1,pO t6,lL,eP];have c:(Qy jh D.jg kL).has (Pv.str n.Name)=yx kL n.Name:=rfl;rw[c];refine akX (Q:=fun m=>(bif !yx kL m then(8:Int)else bif nT .i64 (lN .i64 (kX jh.z kL m).targets t) (1:Int)==0 then 1 else bif !uV n then 12 else bif b then bif Op.bytesLess n.Name a then 11 else bif b then bif n.Name==a then 9 else 0 else 0 else bif b then bif n.Name==a then 9 else 0 else 0)=(bif nP m==0 then 8 else bif !EQ m t then 1 else bif !uV n then 12 else bif b then bif Op.bytesLess n.Name a then 11 else bif n.Name==a then 9 else 0 else 0)) (fun p g=> ?_) (fun m c=> ?_) n.Name
 ·grind [ajR,Iu]
 ·obtain⟨_,e,d⟩:=kind_other c
  grind
theorem arl (l:List Note)(h:UB l)(t:Int)(i:t=1\/t=2\/t=3\/t=4\/t=5\/t=6):abG l t=Xg l t:=by
 unfold abG ahg Xg r8check;simp only[aF,dW,dN,di,aT,dn,ay];cases b:decide (8 < (l.length:Int))with
 | true=>rfl
 | false=>
  have b:¬8 < (l.length:Int):=Qbr b;simp only[lL];refine qf (d:=ou) (d':=ou) (fun k (y:List UInt8) _=>k=0\/y=(l.getD (k - 1) ou).Name) Eq l l 0 [] () rfl (.inl rfl) (fun j y z m a=> ?_) (fun _ _ _=>rfl);simp only[Bc]at a⊢;have g:=h _ (getD_mem (d:=ou) m);generalize p:l.getD j ou=n at*;have f:(Note.mk n.Name n.Val.re)=n:=by rw[ae.bJ]
  rw[f,aEG n g t i y];by_cases c:j=0
  ·have d0:decide ((0:Int) < (j:Int))=false:=pO aj;rw[d0];cases nP n.Name==0 with
   | true=>rfl
   | false=>
    cases EQ n.Name t with
    | false=>rfl
    | true=>
     cases uV n with
     | false=>rfl
     | true=>exact .inr dm
  ·have d0:decide ((0:Int) < (j:Int))=true:=wz aj;have o:y=(l.getD (j - 1) ou).Name:=a.resolve_left c;have e:(aQ .i64 ((j:Int) - 1)).toNat=j - 1:=by rw[bn (k:= .i64) kM];omega
   rw[d0,e,<-o];cases nP n.Name==0 with
   | true=>rfl
   | false=>
    cases EQ n.Name t with
    | false=>rfl
    | true=>
     cases uV n with
     | false=>rfl
     | true=>
      cases Op.bytesLess n.Name y with
      | true=>rfl
      | false=>
       cases n.Name==y with
       | true=>rfl
       | false=>exact .inr dm
def r22Find (p:aC)(a:Str):Pg (Int×Bool):=.each true yc p.Progs aO (fun b c (d:Unit)=> .ix b p.Progs.length (.br (c.Name==a) (.ret (.inr (b,true))) (rl ()))) (fun b (d:Unit)=> .ret (0,false)) ()
def Dx (p:aC)(a:Str):=(r22Find p a).val
def ZP:bi Z:=E0 [] [jS 2 (bD (fun b=>[s0 6]) iL)] (aCons (aAgg cd_Plan) hh1) (shr aeR QA) [] func204 2 (u2 r22Find)
def r22Op (g:aX)(b:Int):Pg (Op×Bool):=.each true yc g.Ops Gt (fun a c (d:Unit)=> .ix a g.Ops.length (.br (c.Num==b) (.ix a g.Ops.length (.ret (.inr (c,true)))) (rl ()))) (fun a (d:Unit)=> .ret (Op.mk 0 [] [] 0 0 0 0 0,false)) ()
def ah9 (g:aX)(a:Int):=(r22Op g a).val
def amK:bi Z:=E0 [] [jS 2 (bD (fun b=>[s0 6]) iL)] (aCons (aAgg cd_Prog) hh5) aCZ [] func463 2 (u2 r22Op)
def r22Acc (p:aC)(a:Int)(b:Int):Pg Bool:=.br (decide (a < 0)) (.ret false) (.br (decide ((↑p.Enums.length:Int)<=a)) (aL p.Enums (.ret false)) (aL p.Enums (.br (decide (2147483647 < b)) (.ret false) (.ix a p.Enums.length (.EK [0<=a/\a < (↑p.Enums.length:Int)] true mg (p.Enums.getD a.toNat dR).Items gQ (fun d e (c:Bool)=> .br c (rl true) (.ix a p.Enums.length (.ix d (p.Enums.getD a.toNat dR).Items.length (rl (e.Num==aQ .i64 b))))) (fun d (c:Bool)=> .ret c) (p.Enums.getD a.toNat dR).Open)))))
def QL (p:aC)(a:Int)(b:Int):=(r22Acc p a b).val
theorem aqt (p:aC)(a:Int)(b:Int):Is (r22Acc p a b):=
 is_brd iR (fun _=>is_brd (fun _=>is_as fun _=>is_ret) (fun _=>is_as fun _=>is_brd iR (fun _=>is_ix aj aj (adF ⟨by omega,trivial⟩ (.inl rfl) (fun d c _ _=>is_br iR (fun _=>is_ix aj aj (is_ix aj aj (is_ret)))) (fun c _=>is_ret)))))
def ast:bi Z:=E0 [] [jS 5 (bD (fun b=>[s0 8, s0 7]) QA)] aBL hh2 [] func563 1 (u3 r22Acc) fun a=>aqt a.1 a.2.1 a.2.2
def r22Packed (o:Op):Pg Bool:=.br (o.Card==4) (.br (decide (1<=o.Kind)) (.br (decide (o.Kind<=6)) (.ret true) (.ret (o.Kind==9))) (.ret (o.Kind==9))) (.ret false)
def Ho (o:Op):=(r22Packed o).val
def Pn:bi Z:=E0 [] [] aaz hh2 [] func467 1 r22Packed
def r22Wire (o:Op):Pg Int:=.br (o.Card==5) (.ret 6) (.br (Ho o) (.ret 5) (.cut (fun(a:Bool)=> .br a (.ret 0) (.cut (fun(b:Bool)=> .br b (.ret 1) (.br (o.Kind==6) (.ret 2) (.br (o.Kind==7) (.br (o.Kind==7) (.ret 3) (.br (o.Kind==10) (.ret 4) (.ret (-1)))) (.br (o.Kind==8) (.ret 3) (.br (o.Kind==10) (.ret 4) (.ret (-1))))))) (.br (o.Kind==2) (rl (o.Kind==2)) (rl (o.Kind==3))))) (.br (o.Kind==1) (rl (o.Kind==1)) (.br (o.Kind==4) (rl (o.Kind==4)) (.br (o.Kind==5) (rl (o.Kind==5)) (rl (o.Kind==9)))))))
def auy (o:Op):=(r22Wire o).val
def anS:bi Z:=E0 [Pn] [jS 100010 (bD (fun b=>[s0 10]) oK),jS 100013 (bD (fun b=>[s0 15]) oK)] aaz jE [] func529 1 r22Wire
def r25single (o:Op):Pg Op:=.ret (Op.mk o.Num o.Name o.Alias 2 o.Key o.Kind o.Target o.Union)
def Ib (o:Op):=(r25single o).val
def O_:bi Z:=E0 [] [] aaz aB8 [] func530 1 r25single
def r25Wire (o:Op):Pg Int:=.ret (auy (Ib o))
def Ad (o:Op):=(r25Wire o).val
def zM:bi Z:=E0 [anS,O_] [] aaz jE [] func469 1 r25Wire
def r1zag (u:Int):Pg Int:=.ob ((2:Int)≠0) (.br (u.tmod (2:Int)==0) (.ob ((2:Int)≠0) (.ret (aQ .i64 (aQ .u64 (u.tdiv 2))))) (.ob ((2:Int)≠0) (.ret (aQ .i64 (aQ .i64 (-aQ .i64 (aQ .u64 (u.tdiv 2))) - 1)))))
def ahU (u:Int):=(r1zag u).val
def aAo:bi Z:=E0 [] [] Qw jE [] func562 1 r1zag
def r25Scalar (p:aC)(o:Op)(f:Raw):Pg (ae×Int):=.br (!G6 o.Kind) (.ret (ae.mk 0 0 [] [] [] [] [],12)) (.br (f.fB !=Ad o) (.ret (ae.mk 0 0 [] [] [] [] [],13)) (.cut (fun(a:ae)=> .br (!ut o.Kind a.re) (.ret (ae.mk 0 0 [] [] [] [] [],6)) (.lt (jU a.re) fun b=> .br (o.Kind==9) (.br (!QL p o.Target a.Bits) (.ret (ae.mk 0 0 [] [] [] [] [],16)) (.ret (b.re,0))) (.ret (b.re,0)))) (.br (f.fB==3) (.br (o.Kind==7) (.ob (List.length f.Data<=9223372036854775700) (.br (!FX f.Data) (.ret (.inr (ae.mk 0 0 [] [] [] [] [],7))) (.ret (.inr (ae.mk o.Kind 0 f.Data [] [] [] [],0))))) (.ret (.inr (ae.mk o.Kind 0 f.Data [] [] [] [],0)))) (.br (f.fB==1) (rl (ae.mk o.Kind (aQ .u64 (ahU f.Bits)) [] [] [] [] [])) (rl (ae.mk o.Kind f.Bits [] [] [] [] []))))))
def BM (p:aC)(o:Op)(f:Raw):=(r25Scalar p o f).val
def PT:bi Z:=E1 [D8,WJ,JS,acU,zM,aAo,ast] [jS 100015 (bD (fun b=>[.cells (pid (b 8)) (nn 7)]) aaJ)] aCs aiI [] func534 2 (u3 r25Scalar) fun a=>a.2.2.Data.length<=1048576
def r25len (c:ai):Pg (Int×ai×Int):=.ob (okC c) (.lt (sZ c) fun a=> .br (a.2.2 !=0) (.ret (0,c,a.2.2)) (.ob (okC a.2.1) (.lt (aQ .u64 (yP a.2.1)) fun b=> .br (decide (b < a.1)) (.ret (0,c,4)) (.ret (aQ .i64 a.1,a.2.1,0)))))
def FY (c:ai):=(r25len c).val
theorem anL (c:ai)(h:okC c):Is (r25len c):=
 is_ob (h) (is_lt fun d a=>is_bne iR (fun _=>is_ob ((vC h a aj)) (is_lt fun e b=>is_brd iR iR)))
def LD:bi Z:=E1 [zS,Ci] [] XC (shr atw (aJ cI hh6)) [] func522 3 r25len (fun a=>okC a) fun a h=>anL a h
def r25cont (a:Int)(c:ai):Pg (Raw×ai×Int):=.br (a==2) (.ob (okC c) (.lt (KH c) fun e=> .ret (Raw.mk 0 a e.1 [],e.2))) (.br (a==3) (.ob (okC c) (.lt (FY c) fun b=> .br (b.2.2 !=0) (.ret (Raw.mk 0 0 0 [],c,b.2.2)) (.ob (okC b.2.1) (.lt (acV b.2.1 b.1) fun f=> .ret (Raw.mk 0 a 0 f.1,f.2))))) (.ob (okC c) (.lt (sZ c) fun d=> .ret (Raw.mk 0 a d.1 [],d.2))))
def LM (a:Int)(c:ai):=(r25cont a c).val
def r25Get (v:ae)(b:Int):Pg (ae×Bool):=.each true yc v.Slots gZ (fun a c (d:Unit)=> .ix a v.Slots.length (.br (c.Num==b) (.ix a v.Slots.length (.ret (.inr (c.Val.re,true)))) (rl ()))) (fun a (d:Unit)=> .ret (ae.mk 0 0 [] [] [] [] [],false)) ()
def Bg (v:ae)(a:Int):=(r25Get v a).val
def AQ:bi Z:=E0 [] [jS 2 (bD (fun b=>[s0 6]) iL)] (aCons (aAgg cd_AVal) hh5) aAm [] func271 2 (u2 r25Get)
def r25put (g:aX)(v:ae)(o:Op)(x:ae):Pg ae:=.each true mg v.Slots gZ (fun c d (b:ae)=> .ix c v.Slots.length (.ix c v.Slots.length (.br (d.Num !=o.Num) (.lt (b.Slots++[Slot.mk d.Num d.Val.re]) fun(e:List Slot)=> .br (o.Union==(-1)) (.ix c v.Slots.length (.ob (bG (b.Slots.length+1) 136) (rl (ae.mk b.Kind b.Bits b.Text b.List b.Pairs e b.Raws)))) (.br ((ah9 g d.Num).1.Union !=o.Union) (.ix c v.Slots.length (.ob (bG (b.Slots.length+1) 136) (rl (ae.mk b.Kind b.Bits b.Text b.List b.Pairs e b.Raws)))) (rl b.re))) (rl b.re)))) (fun c (b:ae)=> .ob (bG (b.Slots.length+1) 136) (.ret (ae.mk b.Kind b.Bits b.Text b.List b.Pairs (b.Slots++[Slot.mk o.Num x.re]) b.Raws))) (ae.mk (Int.ofNat (nat_lit 10)) (Int.ofNat (nat_lit 0)) [] [] [] [] (match v with | ae.mk f l i h k j a=>a))
def FH (g:aX)(v:ae)(o:Op)(x:ae):=(r25put g v o x).val
def r25aside (v:ae)(f:Raw):Pg ae:=.ob (bG (0+v.Raws.length) 40) (.ob (bG (v.Raws.length+1) 40) (.ret (ae.mk v.Kind v.Bits v.Text v.List v.Pairs v.Slots (v.Raws++[f]))))
def Oc (v:ae)(f:Raw):=(r25aside v f).val
def Vh:bi Z:=E1 [] [] (aCons (aAgg cd_AVal) aAK) hh12 [] func465 1 (u2 r25aside) fun a=>a.1.Raws.length<=1048576
theorem anI (a:Nat)(h:a < 2 ^ 63):(BitVec.ofInt 64 (a:Int)).toNat=a:=by
 grind
theorem aDv (a:Nat)(h:a < 2 ^ 63):mJ .i64 (a:Int) (-1)= -(a:Int) - 1:=by
 have e:(BitVec.ofInt IntKind.i64.bits (a:Int) ^^^ BitVec.ofInt IntKind.i64.bits (-1)).toNat=2 ^ 64 - 1 - a:=by
  show(BitVec.ofInt 64 (a:Int) ^^^ BitVec.ofInt 64 (-1)).toNat=_
  rw[show BitVec.ofInt 64 (-1)=BitVec.allOnes 64 by decide,BitVec.xor_allOnes,BitVec.toNat_not,anI a h]
 unfold mJ;rw[e];show aQ .i64 ((2 ^ 64 - 1 - a:Nat):Int)=_
 rw[show((2 ^ 64 - 1 - a:Nat):Int)=(-(a:Int) - 1)+18446744073709551616 by omega];unfold aQ IntKind.wrap;simp only[IntKind.signed,IntKind.bits,if_true]
 grind
theorem aGP (a:Nat)(h:a < 2 ^ 63):mJ .i64 (a:Int) 0=(a:Int):=by
 have e:(BitVec.ofInt IntKind.i64.bits (a:Int) ^^^ BitVec.ofInt IntKind.i64.bits 0).toNat=a:=by
  show(BitVec.ofInt 64 (a:Int) ^^^ BitVec.ofInt 64 0).toNat=_
  grind
 unfold mJ;rw[e];exact bn (k:= .i64) kM
theorem aC5 (u:Int)(h:isU64 u):ahU u=alv u:=by
 obtain⟨x,rfl⟩:∃x:Nat,u=(x:Int):=⟨u.toNat,by obtain⟨a,j⟩:=h;omega⟩;have i:x < 2 ^ 64:=by obtain⟨a,j⟩:=h;omega
 unfold ahU r1zag alv aE5;simp only[aV,aF,ay];have e:lN .u64 (x:Int) 1=((x / 2:Nat):Int):=EJ (k:= .u64) x 1 dH;have g:nT .u64 (x:Int) 1=((x &&& 1:Nat):Int):=Am (k:= .u64) rfl i (y:=1) dH;have d:(x:Int).tdiv 2=((x / 2:Nat):Int):=adc x 2;have c:(x:Int).tmod 2=((x % 2:Nat):Int):=KF x 2;have b:aQ .i64 ((x / 2:Nat):Int)=((x / 2:Nat):Int):=bn (k:= .i64) kM;have f:aQ .u64 ((x / 2:Nat):Int)=((x / 2:Nat):Int):=bn (k:= .u64) kM;rw[e,g,d,c,Nat.and_one_is_mod,f,b];rcases Nat.mod_two_eq_zero_or_one x with k | k
 ·rw[k,show aQ .i64 (-aQ .i64 ((0:Nat):Int))=0 by decide,aGP _ aj];rfl
 ·rw[k,show aQ .i64 (-aQ .i64 ((1:Nat):Int))= -1 by decide,aDv _ aj];have m:aQ .i64 (-((x / 2:Nat):Int))= -((x / 2:Nat):Int):=bn (k:= .i64) kM;have l:aQ .i64 (-((x / 2:Nat):Int) - 1)= -((x / 2:Nat):Int) - 1:=bn (k:= .i64) kM
  grind
theorem Zn {A Y R:Type}{n:Int}{num:A->Int}{h:A->Y->R}{f:Nat->Y->R}{b:Nat->A->Y->Y⊕R}(d:∀k a y,num a=n->b k a y= .inr (h a y))(e:∀k a y,num a≠n->b k a y= .inl y):∀(l:List A) (k:Nat) (y:Y),iH b f l k y=match l.find? (fun a=>num a==n)with | some a=>h a y | none=>f (k+l.length) y
 | [],k,y=>rfl
 | a::l,k,y=>by
  unfold iH;rw[List.find?_cons];cases c:num a==n with
  | true=>grind
  | false=>
   have g:=Zn (f:=f) d e l (k+1) y
   grind
theorem DI (g:aX)(n:Int):pz g n=match g.Ops.find? (fun o=>o.Num==n)with | some o=>(o,true) | none=>(Op.mk 0 [] [] 0 0 0 0 0,false):=by
 have a:∀o,alL o n=(o.Num==n):=fun o=>rfl
 unfold pz pOp avG pOpIn;simp only[ay,aT,aF,di]
 grind [oN]
theorem abm (o:Op):Ho o=Eu o:=rfl
theorem IK (o:Op):Ad o=pg o:=rfl
theorem sS (v:ae)(n:Int):Bg v n=tFindP v n:=rfl
theorem afC (g:aX)(n:Int):ah9 g n=pz g n:=by
 have b:∀(l:List Op) (k:Nat),iH (fun(k:Nat) (c:Op) (_:Unit)=>bif c.Num==n then(Sum.inr (c,true):Unit⊕(Op×Bool))else Sum.inl ()) (fun _ _=>(Op.mk 0 [] [] 0 0 0 0 0,false)) l k ()=match l.find? (fun o=>o.Num==n)with | some o=>(o,true) | none=>(Op.mk 0 [] [] 0 0 0 0 0,false):=by
  intro l;induction l with
  | nil=>exact fun _=>rfl
  | cons a l d=>
   grind [iH]
 rw[DI];exact b g.Ops 0
theorem Py (v:ae)(f:Raw):Oc v f=uy v f:=by
 rw[Ce];rfl
theorem Aq {c:ai}(h:okC c)(p:aC):FY c=((ig (tagdec_reader.mk p c)).1,(ig (tagdec_reader.mk p c)).2.2.c,(ig (tagdec_reader.mk p c)).2.1):=by
 have k:=(iw h).2;unfold FY r25len ig Rx;simp only[aV,aT,aF,ay];rw[qO h];cases e:(bP c).2.2 !=0 with
 | true=>rfl
 | false=>
  rw[uh (k (bU.1 e)).1.1]
  grind
def aI9 (x:Raw×Int×tagdec_reader)(y:Raw×ai×Int):Prop:=y.2.2=x.2.1/\(x.2.1=0->y.1=x.1/\y.2.1=x.2.2.c)
theorem UW {c:ai}(h:okC c)(p:aC)(a:Int):aI9 (eQ a (tagdec_reader.mk p c)) (LM a c):=by
 have kl:=jW (r:=tagdec_reader.mk p c) h;have b:=Aq h p;unfold LM r25cont eQ tContents;simp only[aV,aT,aF,ay];rw[UN h,qO h,b];cases d:a==2 with
 | true=>rw[eq_of_beq d];exact⟨rfl,fun _=>⟨rfl,rfl⟩⟩
 | false=>cases f:a==3 with
  | false=>exact⟨rfl,fun _=>⟨rfl,rfl⟩⟩
  | true=>
   simp only[cond_true,lL];cases e:(ig (tagdec_reader.mk p c)).2.1 !=0 with
   | true=>exact⟨rfl,fun k=>absurd k dm⟩
   | false=>
    rw[apH (kl (bU.1 e)).1.1];exact⟨rfl,fun _=>⟨rfl,rfl⟩⟩
def setQ (g:aX)(v:ae)(o:Op):Prop:=v.Slots.length<=1048576/\(∀s∈v.Slots,(pz g s.Num).2=true)/\(o.Union= -1\/0<=o.Union)
theorem amk {g:aX}{v:ae}{o:Op}{x:ae}(h:v.Slots.length<=1048576)(n:∀s∈v.Slots,(pz g s.Num).2=true)(i:o.Union= -1\/0<=o.Union):jK (tSet g v o x) (r25put g v o x) (fun a b=>b=a):=by
 unfold tSet r25put;simp only[ae.bJ,Slot.eta];refine asB (aAz (fun k y f=>f=y/\y.Slots.length<=k) ⟨rfl,Gw _⟩ rfl aj (fun k y f m j=> ?_) (fun y f j=> ?_))
 ·obtain⟨rfl,B⟩:=j;have t:=n _ (getD_mem (d:=gZ) m);generalize v.Slots.getD k gZ=s at*;have u:anH (fun(y:ae) (f:ae)=>f=y/\y.Slots.length<=k+1) (fun(a:ae) (b:ae)=>b=a) (.inl (ae.mk f.Kind f.Bits f.Text f.List f.Pairs (f.Slots++[s]) f.Raws)) (.inl (ae.mk f.Kind f.Bits f.Text f.List f.Pairs (f.Slots++[s]) f.Raws)):=⟨rfl,by show(f.Slots++[s]).length<=k+1;grind⟩;have p:anH (fun(y:ae) (f:ae)=>f=y/\y.Slots.length<=k+1) (fun(a:ae) (b:ae)=>b=a) (.inl f) (.inl f):=⟨rfl,by omega⟩;have C:bG (f.Slots.length+1) 136:=room_of aj aj;rw[afC];refine aFA (BX aj aj (BX aj aj ?_));by_cases e:s.Num=o.Num
  ·grind [ik,gJ,bF]
  ·rw[show(s.Num==o.Num)=false from beq_false_of_ne e,show(s.Num !=o.Num)=true from bne_iff_ne.2 e];refine ik (fun c=>nomatch c) (fun _=>gJ (fun _=> ?_) (fun c=>nomatch c));refine dP fun z l=>dP fun w r=>dL fun A f4=> ?_;subst l r f4;rw[t];refine ik (fun _=> ?_) (fun c=>nomatch c);rcases i with i | i
   ·grind [ik,gJ,BX,dB,cO,bF]
   ·rw[wz i,show(o.Union== -1)=false from beq_false_of_ne aj];refine ik (fun _=>gJ (fun c=>nomatch c) (fun _=> ?_)) (fun c=>nomatch c);cases q:(pz g s.Num).1.Union==o.Union with
    | true=>
     grind [ik,gJ,bF]
    | false=>
     grind [ik,gJ,BX,dB,cO,bF]
 grind [dB,cO,bF,room_of]
theorem zY {g:aX}{v:ae}{o:Op}{x:ae}(h:v.Slots.length<=1048576)(b:∀s∈v.Slots,(pz g s.Num).2=true)(a:o.Union= -1\/0<=o.Union):FH g v o x=u_ g v o x:=(amk h b a).2
theorem ajN (b:Int)(c:ai)(h:okC c):Is (r25cont b c):=
 is_beq (fun _=>is_ob (h) (is_lt fun i d=>is_ret)) (fun _=>is_beq (fun _=>is_ob (h) (is_lt fun l a=>is_bne iR (fun _=>is_ob (by have k:=jW (r:=tagdec_reader.mk (aC.mk [] []) c) h;rw[Aq h (aC.mk [] [])]at a;subst a;exact(k aj).1.1) (is_lt fun j e=>is_ret)))) (fun _=>is_ob (h) (is_lt fun g f=>is_ret)))
def ZI:bi Z:=E1 [Ci,LD,ZG,asO] [] (aCons (aLf cI) XC) ayJ [] func533 3 (u2 r25cont) (fun a=>okC a.2) fun a h=>ajN a.1 a.2 h
theorem aoV (g:aX)(v:ae)(o:Op)(x:ae)(h:setQ g v o):Is (r25put g v o x):=
 (amk h.1 h.2.1 h.2.2).1
def DD:bi Z:=E1 [amK] [jS 3 (bD (fun b=>[s0 10, .cells (pid (b 9)) az1]) (aJ cI aaJ)),jS 800001 (bD (fun b=>[.cells (pid (b 9)) az1]) aaJ)] aFU hh12 [] func526 1 (u4 r25put) (fun a=>setQ a.1 a.2.1 a.2.2.1) fun a h=>aoV a.1 a.2.1 a.2.2.1 a.2.2.2 h
def r25part (c:ai)(n:Int):Pg ai:=.ret (ai.mk c.Data c.At (aQ .i64 (c.At+n)) c.Depth c.Nodes c.Text)
def WI (c:ai)(n:Int):=(r25part c n).val
def Zv:bi Z:=E0 [] [] Qq apX [] func523 1 (u2 r25part)
def r25behind (c:ai)(a:ai):Pg ai:=.ret (ai.mk c.Data a.End c.End c.Depth a.Nodes c.Text)
def W_ (c:ai)(a:ai):=(r25behind c a).val
def P_:bi Z:=E0 [] [] awD apX [] func527 1 (u2 r25behind)
def r25elem (o:Op):Pg ae:=.ret (ae.mk o.Kind 0 [] [] [] [] [])
def afi (o:Op):=(r25elem o).val
def Yi:bi Z:=E0 [] [] aaz hh12 [] func524 1 r25elem
def accOk (p:aC):Prop:=∀e∈p.Enums,∀a∈e.Items,0<=a.Num/\a.Num<=2147483647
theorem UK (n:Int):∀(l:List Item) (k:Nat) (y:Bool),iH (fun(k:Nat) (b:Item) (c:Bool)=>bif c then(Sum.inl true:Bool⊕Bool)else Sum.inl (b.Num==n)) (fun _ y=>y) l k y=(y || l.any fun a=>a.Num==n)
 | [],k,y=>by simp[iH]
 | a::l,k,y=>by
  unfold iH;cases y with
  | true=>exact(UK n l (k+1) true).trans jQ
  | false=>exact(UK n l (k+1) (a.Num==n)).trans jQ
theorem apQ {p:aC}(h:accOk p)(e n:Int)(s:0<=n):QL p e n=Dc p e n:=by
 unfold QL r22Acc Dc axQ;simp only[aF,dW,di,ay,Yy];cases f:decide (e < 0)with
 | true=>rfl
 | false=>cases c:decide ((p.Enums.length:Int)<=e)with
  | true=>rfl
  | false=>cases g:decide (2147483647 < n)with
   | true=>rfl
   | false=>
    have f:=Qbr f;have c:=Qbr c;have g:=Qbr g;have m:=h _ (getD_mem (d:=dR) (l:=p.Enums) (i:=e.toNat) aj);generalize p.Enums.getD e.toNat dR=b at*;rw[bn (k:= .i64) (show Dw .i64 n by simp only[Dw];omega)];simp only[lL];refine(UK n b.Items 0 b.Open).trans ?_;have r:(b.Items.any fun a=>a.Num==n)=b.Items.any fun x=>Ns x n:=by
     rw[Qc9,Qbs,Qbs];have k:∀x∈b.Items,Ns x n=(x.Num==n):=fun x j=>by
      show(aQ .u64 x.Num==n)=_
      obtain⟨q,o⟩:=m x j;rw[bn (k:= .u64) kM]
     grind
    grind
theorem TS {k b:Int}(h:isU64 b):vN (ae.mk k b [] [] [] [] []):=⟨h.1,h.2,Gw _,Gw _,Gw _,Gw _,Gw _⟩
theorem Bf {p q:aC}(g:accOk p)(d:∀e n,Dc p e n=Dc q e n)(o:Op)(f:Raw)(a:isU64 f.Bits):BM p o f=p_ q o f:=by
 have c:∀b:Int,isU64 b->(bif !ut o.Kind (ae.mk o.Kind b [] [] [] [] [])then(ae.mk 0 0 [] [] [] [] [],(6:Int))else bif o.Kind==9 then(bif !QL p o.Target (ae.mk o.Kind b [] [] [] [] []).Bits then(ae.mk 0 0 [] [] [] [] [],16)else(jU (ae.mk o.Kind b [] [] [] [] []),0))else(jU (ae.mk o.Kind b [] [] [] [] []),0))=(bif !NK o.Kind (ae.mk o.Kind b [] [] [] [] [])then(ae.mk 0 0 [] [] [] [] [],(6:Int))else bif o.Kind==9 then(bif !Dc q o.Target (ae.mk o.Kind b [] [] [] [] []).Bits then(ae.mk 0 0 [] [] [] [] [],16)else(jo (ae.mk o.Kind b [] [] [] [] []),0))else(jo (ae.mk o.Kind b [] [] [] [] []),0)):=fun b a=>by
  rw[TT _ _ (TS a),Q9 _ (TS a),<-d,apQ g _ _ (by exact a.1)]
 unfold BM r25Scalar p_ QY;simp only[aV,aT,aF,ay,dn,ae.bJ];rw[IK,ac1];cases G6 o.Kind with
 | false=>rfl
 | true=>cases f.fB !=pg o with
  | true=>rfl
  | false=>cases f.fB==3 with
   | true=>cases o.Kind==7 with
    | false=>rfl
    | true=>
     rw[akO];simp only[Qbv,lL,cond_true];cases FX f.Data<;>rfl
   | false=>cases f.fB==1 with
    | true=>
     rw[aC5 _ a];exact c _ (aBp _)
    | false=>exact c _ a
def r25with (g:aX)(v:ae)(o:Op)(x:ae):Pg ae:=.lt (Bg v.re o.Num) fun a=> .ob (bG (0+a.1.List.length) 128) (.ob (bG (a.1.List.length+1) 128) (.ob (setQ g v.re o) (.ret (FH g v.re o (ae.mk 11 0 [] (a.1.List++[x.re]) [] [] [])).re)))
def Kz (g:aX)(v:ae)(o:Op)(x:ae):=(r25with g v o x).val
theorem ajw (g:aX)(v:ae)(o:Op)(x:ae)(h:setQ g v o/\(tFindP v o.Num).1.List.length<=1048576):Is (r25with g v o x):=
 is_lt fun a hv1=>is_ob ((room_of qbg qbg)) (is_ob ((room_of qbg qbg)) (is_ob qbx (is_ret)))
def Z9:bi Z:=E1 [AQ,DD] [] aFU hh12 [] func532 1 (u4 r25with) (fun a=>setQ a.1 a.2.1 a.2.2.1/\(tFindP a.2.1 a.2.2.1.Num).1.List.length<=1048576) fun a h=>ajw a.1 a.2.1 a.2.2.1 a.2.2.2 h
theorem Wh {g:aX}{v:ae}{o:Op}{x:ae}(a:setQ g v o):Kz g v o x=u_ g v o (nH (tFindP v o.Num).1 x):=by
 unfold Kz r25with
 simp only[aT,aV,ay,ae.bJ];rw[sS,zY a.1 a.2.1 a.2.2,yZ]
def r25scal (p:aC)(g:aX)(v:ae)(o:Op)(c:ai):Pg (ae×ai×Int):=.lt (uZ c 1) fun d=> .br (d.2 !=0) (.ret (v.re,d)) (.ob (okC d.1) (.lt (LM (Ad o) d.1) fun a=> .br (a.2.2 !=0) (.ret (v.re,a.2)) (.ob (List.length a.1.Data<=1048576) (.lt (BM p o a.1) fun b=> .br (b.2==16) (.ob (v.re.Raws.length<=1048576) (.ret ((Oc v.re (Raw.mk o.Num 0 a.1.Bits [])).re,a.2.1,0))) (.br (b.2 !=0) (.ret (v.re,a.2.1,b.2)) (.br (o.Card !=4) (.ob (setQ g v.re o) (.ret ((FH g v.re o b.1.re).re,a.2.1,0))) (.lt (Kz g v.re o b.1.re) fun h=> .lt (tFindP v.re o.Num) fun f=> .br (!(Bg v.re o.Num).2) (.lt (uZ a.2.1 1) fun e=> .br (e.2 !=0) (.ret (v.re,e)) (.ob (setQ g v.re o/\f.1.List.length<=1048576) (.ret (h.re,e.1,0)))) (.ob (setQ g v.re o/\f.1.List.length<=1048576) (.ret (h.re,a.2.1,0))))))))))
def WT (p:aC)(g:aX)(v:ae)(o:Op)(c:ai):=(r25scal p g v o c).val
def aAD (x:ae×Int×tagdec_reader)(y:ae×ai×Int):Prop:=y.2.2=x.2.1/\(x.2.1=0->y.1=x.1/\y.2.1=x.2.2.c)
theorem Ei {x:ae×Int×tagdec_reader}{y:ae×ai×Int}(h:y.2.2=x.2.1)(a:(x.2.1 !=0)=true):aAD x y:=⟨h,fun k=>absurd k dm⟩
theorem SL {p q:aC}{g:aX}{v:ae}{o:Op}{c:ai}(h:inD v (tagdec_reader.mk q c))(a:setQ g v o)(I:accOk p)(C:∀e n,Dc p e n=Dc q e n):jK (tOne g v o (tagdec_reader.mk q c)) (r25scal p g v o c) aAD:=by
 have G:=qi h;have T:=Ac h o.Num;have f:okC c:=h.1;unfold tOne r25scal;simp only[ae.bJ];refine dP fun L k=>dL fun b f1=> ?_;rw[gK]at f1;have R:L=(b.2,tagdec_reader.mk q b.1):=by rw[k,f1];rfl
 clear k;subst R;refine fG rfl (fun c=>bF (Ei rfl c)) fun X=> ?_;have s:=jJ f (n:=1) dm;rw[<-f1]at s;refine dB (cO s.1.1 (dP fun y x=>dL fun W f2=> ?_));have d:=UW s.1.1 q (pg o);rw[IK]at f2;have w:=uF (r:=tagdec_reader.mk q b.1) (wire:=pg o) s.1.1;have j:=yS (r:=tagdec_reader.mk q b.1) (wire:=pg o) s.1.1;dsimp only at x;rw[<-x]at d w j;rw[<-f2]at d;obtain⟨l,F⟩:=d;refine fG (by rw[l]) (fun c=>bF (Ei l c)) fun u=> ?_;obtain⟨K,z⟩:=F (bU.1 u);obtain⟨a1,a2,S,M,_⟩:=w (bU.1 u);have a2:y.2.2.p=q:=a2;rw[K,z,a2];refine dB (cO M (dP fun H J=>dL fun N f3=> ?_));have m:N=H:=by rw[f3,J,Bf I C o _ j]
 subst m;refine fG rfl (fun _=>dB (cO G.1 (bF ⟨rfl,fun _=>⟨Py _ _,rfl⟩⟩))) fun _=>fG rfl (fun c=>bF (Ei rfl c)) fun _=>fG rfl (fun _=>dB (cO a (bF ⟨rfl,fun _=>⟨zY a.1 a.2.1 a.2.2,rfl⟩⟩))) fun _=> ?_;refine dP fun D A=>dP fun U Q=>dL fun E f4=> ?_;have t:E=D:=by rw[f4,A,Wh a]
 subst t;rw[sS,<-Q];refine fG rfl (fun Y=>dP fun B P=>dL fun i f6=> ?_) (fun _=>dB (dB (cO ⟨a,by grind⟩ (bF ⟨rfl,fun _=>⟨rfl,rfl⟩⟩))));have O:B=(i.2,tagdec_reader.mk y.2.2.p i.1):=by rw[P,f6,gK];rfl
 subst O;exact fG rfl (fun c=>bF (Ei rfl c)) fun V=>dB (dB (cO ⟨a,by grind⟩ (bF ⟨rfl,fun _=>⟨rfl,rfl⟩⟩)))
theorem ah8 (p:aC)(g:aX)(v:ae)(o:Op)(c:ai)(h:inD v (tagdec_reader.mk p c)/\setQ g v o/\accOk p):Is (r25scal p g v o c):=
 (SL h.1 h.2.1 h.2.2 (fun _ _=>rfl)).1
def Zd:bi Z:=E1 [wK,AQ,Vh,zM,DD,Z9,ZI,PT] [] aHG aFM [] func471 3 (fun a=>r25scal a.1 a.2.1 a.2.2.1 a.2.2.2.1 a.2.2.2.2) (fun a=>inD a.2.2.1 (tagdec_reader.mk a.1 a.2.2.2.2)/\setQ a.2.1 a.2.2.1 a.2.2.2.1/\accOk a.1) fun a h=>ah8 a.1 a.2.1 a.2.2.1 a.2.2.2.1 a.2.2.2.2 h
mutual
def wV (p:aC):ae->aX->Prop
 | .mk k _ _ _ _ s _,g=>k=10/\wSs p s g/\(s.map Slot.Num).Nodup
def wSs (p:aC):List Slot->aX->Prop
 | [],_=>True
 | x::l,g=>wS p x g/\wSs p l g
def wS (p:aC):Slot->aX->Prop
 | .mk n v,g=>∃o,o∈g.Ops/\o.Num=n/\(o.Kind=10->wE p v (p.Progs.getD o.Target.toNat aO) o.Card)
def wE (p:aC):ae->aX->Int->Prop
 | .mk k _ _ l q s _,g,a=>(a=4->k=11/\q=[]/\wVs p l g)/\(a=5->k=12/\l=[]/\wPs p q g)/\(a≠4->a≠5->k=10/\wSs p s g/\(s.map Slot.Num).Nodup)
def wVs (p:aC):List ae->aX->Prop
 | [],_=>True
 | x::l,g=>wV p x g/\wVs p l g
def wPs (p:aC):List Pair->aX->Prop
 | [],_=>True
 | x::l,g=>wP p x g/\wPs p l g
def wP (p:aC):Pair->aX->Prop
 | .mk _ v,g=>wV p v g
end
theorem alz {p:aC}{g:aX}:∀{l:List ae},wVs p l g ↔ ∀x∈l,wV p x g
 | []=>by simp[wVs]
 | x::l=>by simp[wVs,alz (l:=l)]
theorem alZ {p:aC}{g:aX}:∀{l:List Pair},wPs p l g ↔ ∀x∈l,wV p x.Val g
 | []=>by simp[wPs]
 | .mk k v::l=>by simp[wPs,wP,alZ (l:=l),Pair.Val]
def wSp (p:aC)(g:aX)(x:Slot):Prop:=∃o,o∈g.Ops/\o.Num=x.Num/\(o.Kind=10->wE p x.Val (p.Progs.getD o.Target.toNat aO) o.Card)
theorem akM {p:aC}{g:aX}:∀{l:List Slot},wSs p l g ↔ ∀x∈l,wSp p g x
 | []=>by simp[wSs]
 | .mk n v::l=>by simp[wSs,wS,akM (l:=l),wSp,Slot.Num,Slot.Val]
theorem zt {p:aC}{g:aX}{v:ae}:wV p v g ↔ v.Kind=10/\(∀x∈v.Slots,wSp p g x)/\(v.Slots.map Slot.Num).Nodup:=by
 cases v;simp only[wV,akM,ae.Slots,ae.Kind]
theorem uj {p:aC}{g:aX}{v:ae}{a:Int}:wE p v g a ↔ (a=4->v.Kind=11/\v.Pairs=[]/\∀x∈v.List,wV p x g)/\(a=5->v.Kind=12/\v.List=[]/\∀x∈v.Pairs,wV p x.Val g)/\(a≠4->a≠5->wV p v g):=by
 cases v;simp only[wE,wV,alz,alZ,ae.List,ae.Pairs,ae.Kind]
def aDT (g:aX):Prop:=g.Ops.Pairwise fun a b=>a.Num < b.Num
theorem abR {g:aX}(a:aDT g){o q:Op}(h:o∈g.Ops)(b:q∈g.Ops)(e:o.Num=q.Num):o=q:=by
 obtain⟨i,c,rfl⟩:=Qbu.1 h;obtain⟨j,d,rfl⟩:=Qbu.1 b;have k:=Qb6.1 a
 grind
theorem SQ {p:aC}{g:aX}{b:Int}{t:Str}:wV p (ae.mk 10 b t [] [] [] []) g:=zt.2 ⟨rfl,fun x a=>absurd a (Qbe),Qdr⟩
theorem aej {p:aC}{g:aX}{v:ae}{f:Raw}(h:wV p v g):wV p (uy v f) g:=by
 rw[zt]at h⊢;rw[Ce];exact h
theorem V5 {p:aC}{g:aX}{v x:ae}{o:Op}(j:v.Slots.length<=1048576)(h:wV p v g)(f:o∈g.Ops)(i:o.Kind=10->wE p x (p.Progs.getD o.Target.toNat aO) o.Card):wV p (u_ g v o x) g:=by
 obtain⟨l,m,e⟩:=Uu g v o x j;rw[e,zt];rw[zt]at h;have q:∀y∈l,y∈v.Slots/\y.Num≠o.Num:=fun y c=>by
  grind
 refine⟨rfl,fun y c=> ?_,?_⟩
 ·rcases vO.1 c with k | k
  ·grind
  ·rw[QZ.1 k];exact⟨o,f,rfl,i⟩
 ·show((l++[Slot.mk o.Num x]).map Slot.Num).Nodup
  rw[Qct,List.nodup_append];refine⟨h.2.2.sublist ((m.trans List.filter_sublist).map _),by simp,fun a n b d=> ?_⟩;obtain⟨y,c,rfl⟩:=QH.1 n;rw[List.map_singleton,QZ]at d;rw[d];exact(q y c).2
theorem ab3 {p:aC}{g:aX}{v:ae}{o:Op}(h:wV p v g)(i:aDT g)(d:o∈g.Ops)(f:o.Kind=10)(b:(tFindP v o.Num).2=true):wE p (tFindP v o.Num).1 (p.Progs.getD o.Target.toNat aO) o.Card:=by
 rw[zt]at h;rcases uM v o.Num with⟨_,s,a,j,c⟩ | ⟨m,_⟩
 ·obtain⟨q,l,k,e⟩:=h.2.1 s a
  grind [abR]
 grind
theorem aqF {p:aC}{g:aX}{l x:ae}(b:∀y∈l.List,wV p y g)(a:wV p x g):wE p (nH l x) g 4:=by
 rw[uj,yZ];refine⟨fun _=>⟨rfl,rfl,fun y c=> ?_⟩,fun k=>absurd k dH,fun k=>absurd rfl k⟩;rcases vO.1 c with k | k
 ·exact b y k
 ·rw[QZ.1 k];exact a
theorem aus {p:aC}{g:aX}{l:List Pair}(h:∀y∈l,wV p y.Val g):wE p (ae.mk 12 0 [] [] l [] []) g 5:=by
 rw[uj];exact⟨fun k=>absurd k dH,fun _=>⟨rfl,rfl,h⟩,fun _ k=>absurd rfl k⟩
noncomputable def stepT (F:aX->ae->Op->Int->tagdec_reader->ae×Int×tagdec_reader)(g:aX)(v:ae)(r:tagdec_reader):ae×Int×tagdec_reader:=
 let t:=dJ r.c
 bif t.2.2.2 !=0 then(v,t.2.2.2,r)else
 match g.Ops.find? (fun o=>o.Num==t.1)with
 | some o=>F g v o t.2.1 (tagdec_reader.mk r.p t.2.2.1)
 | none=>bif (j_ r.c).2.2 !=0 then(v,(j_ r.c).2.2,r)else(uy v (j_ r.c).1,0,tagdec_reader.mk r.p (j_ r.c).2.1)
theorem aex (b:Nat)(prog:Int)(v:ae)(r:tagdec_reader):(iF (b+1)).1 prog v r=Dy (fun(x:tagdec_reader×ae)=>bif decide (0 < m_ x.1.c)then(bif (stepT (iF b).2.1 (r.p.Progs.getD prog.toNat aO) x.2 x.1).2.1 !=0 then(.inr (stepT (iF b).2.1 (r.p.Progs.getD prog.toNat aO) x.2 x.1):(tagdec_reader×ae)⊕(ae×Int×tagdec_reader))else .inl ((stepT (iF b).2.1 (r.p.Progs.getD prog.toNat aO) x.2 x.1).2.2,(stepT (iF b).2.1 (r.p.Progs.getD prog.toNat aO) x.2 x.1).1))else .inr (x.2,0,x.1)) default ((r.c.End - r.c.At).toNat+1) (r,v):=by
 show(Jd _ _ _ _ _ _ _ _ _ _ _ _ prog v r).val=_
 unfold Jd;simp only[di,qx,aT,aF,aV,dW,ay,dn,dN,ae.bJ];congr 1;funext x;unfold stepT;cases decide (0 < m_ x.1.c)with
 | false=>rfl
 | true=>
  dsimp only[cond_true];cases d:(dJ x.1.c).2.2.2 !=0 with
  | true=>grind
  | false=>
   rw[lL,lL];rw[Zn (num:=fun o:Op=>o.Num) (n:=(dJ x.1.c).1) (h:=fun a y=>bif ((iF b).2.1 (r.p.Progs.getD prog.toNat aO) y.2 a (dJ x.1.c).2.1 (tagdec_reader.mk y.1.p (dJ x.1.c).2.2.1)).2.1 !=0 then .inr (.inr ((iF b).2.1 (r.p.Progs.getD prog.toNat aO) y.2 a (dJ x.1.c).2.1 (tagdec_reader.mk y.1.p (dJ x.1.c).2.2.1)))else .inr (.inl (((iF b).2.1 (r.p.Progs.getD prog.toNat aO) y.2 a (dJ x.1.c).2.1 (tagdec_reader.mk y.1.p (dJ x.1.c).2.2.1)).2.2,((iF b).2.1 (r.p.Progs.getD prog.toNat aO) y.2 a (dJ x.1.c).2.1 (tagdec_reader.mk y.1.p (dJ x.1.c).2.2.1)).1)))]
   ·cases(r.p.Progs.getD prog.toNat aO).Ops.find? (fun o=>o.Num==(dJ x.1.c).1)with
    | none=>
     dsimp only[eP]
     grind
    | some o=>
     dsimp only;cases e:((iF b).2.1 (r.p.Progs.getD prog.toNat aO) x.2 o (dJ x.1.c).2.1 (tagdec_reader.mk x.1.p (dJ x.1.c).2.2.1)).2.1 !=0 with
     | true=>rfl
     | false=>rfl
   ·intro k a y c;have:(a.Num !=(dJ x.1.c).1)=false:=by rw[c];exact bne_self_eq_false _
    simp only[this,lL];cases((iF b).2.1 (r.p.Progs.getD prog.toNat aO) y.2 a (dJ x.1.c).2.1 (tagdec_reader.mk y.1.p (dJ x.1.c).2.2.1)).2.1 !=0<;>rfl
   ·intro k a y c;have:(a.Num !=(dJ x.1.c).1)=true:=bne_iff_ne.2 c;simp only[this,cond_true]
def pG (p:aC):Prop:=planOk p/\accOk p/\∀g∈p.Progs,aDT g/\∀o∈g.Ops,(o.Union= -1\/0<=o.Union)/\1<=o.Card/\o.Card<=5
def rp (p q:aC):Prop:=q.Progs=p.Progs/\∀e n,Dc p e n=Dc q e n
theorem HY (p:aC):rp p p:=⟨rfl,fun _ _=>rfl⟩
theorem Ep {p q:aC}{v:ae}{c:ai}(h:inD v (tagdec_reader.mk p c))(e:rp p q):inD v (tagdec_reader.mk q c):=by
 refine⟨h.1,fun g a=> ?_,h.2.2⟩;have a:g∈q.Progs:=a;rw[e.1]at a;obtain⟨b,k⟩:=h.2.1 g a;refine⟨b,fun o d=> ?_⟩;obtain⟨j,i⟩:=k o d;refine⟨fun f=> ?_,i⟩;show 0<=o.Target/\o.Target < q.Progs.length
 rw[e.1];exact j f
theorem afd {g:aX}{o:Op}(h:o∈g.Ops):(pz g o.Num).2=true:=by
 grind [DI]
theorem L8 {p:aC}{g:aX}{v:ae}{o:Op}(i:pG p)(c:g∈p.Progs)(a:o∈g.Ops)(e:v.Slots.length<=1048576)(b:wV p v g):setQ g v o:=
 ⟨e,fun s f=>by
  obtain⟨q,h,d,_⟩:=(zt.1 b).2.1 s f;rw[<-d];exact afd h,((i.2.2 g c).2 o a).1⟩
theorem aBQ {p:aC}{g:aX}{v:ae}{o:Op}{r:tagdec_reader}(d:v.Slots.length<=1048576)(a:wV p v g)(b:o∈g.Ops)(c:o.Kind≠10):wV p (yH g v o r).1 g:=by
 have k:VP (tOne g v o r) (fun x=>wV p x.1 g):=by
  unfold tOne;simp only[ae.bJ];have e:∀x,wV p (u_ g v o x) g:=fun x=>V5 d a b fun k=>absurd k c
  refine dG fun j _=>dI (fun _=>aI a) fun _=>bf (dG fun m _=>dI (fun _=>aI a) fun _=>bf (dG fun l _=>dI (fun _=>bf (aI (aej a))) fun _=>dI (fun _=>aI a) fun _=>dI (fun _=>bf (aI (e _))) fun _=>dG fun h i=>dG fun f _=> ?_))
  grind [dI,dG,bf,aI]
 exact k
def xH (p:aC)(g:aX)(x:ae×Int×tagdec_reader)(y:ae×ai×Int):Prop:=aAD x y/\(x.2.1=0->wV p x.1 g)
theorem gG {p:aC}{g:aX}{x:ae×Int×tagdec_reader}{y:ae×ai×Int}(h:y.2.2=x.2.1)(a:(x.2.1 !=0)=true):xH p g x y:=⟨Ei h a,fun k=>absurd k dm⟩
theorem LH {R c:Type}{p:aC}{a:aC->Pg R}{b:Pg c}{Q:R->c->Prop}(h:∀q,rp p q->jK (a q) b Q):gU b (fun y=>∀q,rp p q->Q (a q).val y):=⟨(h p (HY p)).1,fun q d=>(h q d).2⟩
noncomputable def r25pack (p:aC)(g:aX)(v:ae)(o:Op)(c:ai):Pg (ae×ai×Int):=.ob (okC c) (.lt (FY c) fun d=> .br (d.2.2 !=0) (.ret (v.re,c,d.2.2)) (.lt (WI d.2.1 d.1) fun h=> .ob (okC h) (.lt (abA h) fun b=> .br (b.2.2 !=0) (.ret (v.re,c,b.2.2)) (.lt (aQ .i64 b.1) fun j=> .br (j !=Ad o) (.ret (v.re,c,13)) (.cut (fun(i:ai×ae)=> .wh ((c.End - c.At).toNat+1) default (fun(a:ae×ai)=> .ob (okC a.2) (.lt (yP a.2) fun k=> .br (decide (0 < k)) (.ob (inD a.1.re (tagdec_reader.mk p a.2)/\setQ g a.1.re o/\accOk p) (.lt (WT p g a.1.re o a.2) fun e=> .br (e.2.2 !=0) (.ret (.inr (e.1.re,c,e.2.2))) (rl (e.1.re,e.2.1)))) (.ret (.inr (a.1.re,W_ d.2.1 a.2,0))))) (i.2.re,i.1)) (.br (!(Bg v.re o.Num).2) (.lt (uZ b.2.1 1) fun f=> .br (f.2 !=0) (.ret (.inr (v.re,c,f.2))) (.ob (setQ g v.re o) (rl (f.1,(FH g v.re o (ae.mk 11 0 [] [] [] [] [])).re)))) (rl (b.2.1,v.re))))))))
noncomputable def awc (p:aC)(g:aX)(v:ae)(o:Op)(c:ai):ae×ai×Int:=(r25pack p g v o c).val
theorem afR {p q:aC}{g:aX}{v:ae}{o:Op}{c:ai}(H:pG p)(Y:rp p q)(h:inD v (tagdec_reader.mk p c))(hg:g∈p.Progs)(G:o∈g.Ops)(hk:o.Kind≠10)(hn:1<=o.Num/\o.Num<=65535)(M:wV p v g):jK (tPack g v o (tagdec_reader.mk q c)) (r25pack p g v o c) (xH p g):=by
 have h':=Ep h Y;have D:=qi h;have B:okC c:=h.1;unfold tPack r25pack;simp only[ae.bJ];refine dB (cO B (dP fun E N=>dL fun w3 f3=> ?_));have k3:w3=(E.1,E.2.2.c,E.2.1):=by rw[f3,Aq B q,N]
 subst k3;clear f3;refine fG rfl (fun Z=>bF (gG rfl Z)) fun Z=> ?_;obtain⟨l1,l2,K,u,z⟩:=jW (r:=tagdec_reader.mk q c) B dm;rw[<-N]at l1 l2 K u z;clear N;obtain⟨j,er3,t,a⟩:=E;dsimp only at l1 l2 K u z⊢;subst K;have l7:=l1.2.2.2.2.2.2;have le:=l1.2.2.1;have O:=JK l1.1 u z;refine dP fun v4 T=>dL fun w4 f4=> ?_;have f4:w4=lK a j:=f4.trans (II (fun x:ai×tagdec_reader=>x.2.c) (AU (r:=tagdec_reader.mk t a) l1.1 u z));rw[AU (r:=tagdec_reader.mk t a) l1.1 u z]at T;subst f4 T;refine dB (cO O (dP fun v5 P=>dL fun w5 f5=> ?_));have k5:w5=v5:=by rw[f5,P,aqk O]
 subst k5;refine fG rfl (fun c5=>bF (gG rfl c5)) fun c5=>dP fun v6 e6=>dL fun w6 f6=> ?_;have k6:w6=v6:=f6.trans e6.symm;subst k6;rw[IK];refine fG rfl (fun c6=>bF (gG rfl rfl)) fun c6=> ?_;obtain⟨b1,b2,W⟩:=Yc O dm;rw[<-P]at b1 b2 W;clear P f5;have eAt:(lK a j).At=a.At:=rfl;have U:(lK a j).End=a.At+j:=rfl;rw[eAt]at W;have J0:∀(x:tagdec_reader×ae),x.1.p=t->yu 0 (lK a j) x.1.c->kV x.2->(tV x.2:Int)<=tV v+8*(x.1.c.At - a.At)->inD x.2 x.1:=fun x A d C S=>by
  have xE:=d.2.2.1;rw[U]at xE;exact⟨d.1,by rw[A];exact h'.2.1,C,by have:=h.2.2.2;grind⟩
 rw[sS];refine WH (fun x y=>y=(x.1.c,x.2)/\x.1.p=t/\yu 0 (lK a j) x.1.c/\kV x.2/\(tV x.2:Int)<=tV v+8*(x.1.c.At - a.At)/\wV p x.2 g) ?_ fun x y l=> ?_
 ·refine fG rfl (fun w=>dP fun v9 e9=>dL fun w9 f9=> ?_) (fun _=>bF ⟨rfl,rfl,fM b1 dH,h.2.2.1,by grind,M⟩);have k9:v9=(w9.2,tagdec_reader.mk t w9.1):=by rw[e9,f9,gK];rfl
  subst k9;refine fG rfl (fun c9=>bF (gG rfl c9)) fun c9=> ?_;have s:=jJ b1.1 (n:=1) (by rw[<-gK,<-f9];grind);rw[<-gK,<-f9]at s;have i:=L8 H hg G D.2.1 M;refine dB (cO i (bF ⟨by rw[zY i.1 i.2.1 i.2.2],rfl,fM (f_ b1 s.1) dH,Eh D.2.1 h.2.2.1 (jb 11 0 [] u0).1,?_,V5 D.2.1 M G fun k=>absurd k hk⟩));have t2:=EG (g:=g) (v:=v) (o:=o) (x:=ae.mk 11 0 [] [] [] [] []) D.2.1
  grind [jb,u0]
 ·refine al8 (fun x y=>y=(x.2,x.1.c)/\x.1.p=t/\yu 0 (lK a j) x.1.c/\kV x.2/\(tV x.2:Int)<=tV v+8*(x.1.c.At - a.At)/\wV p x.2 g) (fun y=>(y.2.End - y.2.At).toNat) ⟨by rw[l.1],l.2⟩ ?_ ?_ fun x y hx=> ?_
  ·obtain⟨e,y1,⟨⟨⟨q1,q2,q3,q4⟩,_⟩,y22,y23,y24,y25,y26,V⟩,y3,y4⟩:=l
   grind
  ·obtain⟨e,y1,⟨⟨⟨q1,q2,q3,q4⟩,_⟩,y22,y23,y24,y25,y26,V⟩,y3,y4⟩:=l
   grind
  ·obtain⟨rfl,A,d,C,S,F⟩:=hx;have b:=J0 x A d C S;obtain⟨⟨Q,m⟩,I⟩:=x;dsimp only at A d C S F b⊢;subst A;have aJu:inD I (tagdec_reader.mk p m):=⟨b.1,h.2.1,b.2.2⟩;have i:=L8 H hg G (qi b).2.1 F;refine dP fun v7 e7=>cO d.1 (dL fun w7 f7=> ?_);have k7:w7=v7:=by rw[f7,e7];exact uh d.1
   subst k7;refine fG rfl (fun c7=>dB (cO ⟨aJu,i,H.2.1⟩ (dP fun X L=>dL fun R f8=> ?_))) (fun c7=>bF ⟨⟨rfl,fun _=>⟨rfl,rfl⟩⟩,fun _=>F⟩);have s:aAD X R:=by rw[L,f8];exact(SL b i H.2.1 Y.2).2
   obtain⟨s1,s2⟩:=s;refine fG (by rw[s1]) (fun w=>bF (gG s1 w)) (fun w=> ?_);obtain⟨a1,a2⟩:=s2 (bU.1 w);have f:=(J8 g I o (tagdec_reader.mk Q m) ⟨b,hn⟩).2;have J:=aBQ (p:=p) (g:=g) (v:=I) (o:=o) (r:=tagdec_reader.mk Q m) (qi b).2.1 F G hk;have f:Dk 1 0 I (tagdec_reader.mk Q m) X:=by rw[L];exact f
   rw[<-L]at J;obtain⟨f1,f2,f3,f4⟩:=f (bU.1 w);have fE:=f2.2.2.1;have fA:=f2.2.2.2.2.2.2;have fL:=f2.1.1.2.1;refine bF ⟨⟨by rw[a1,a2],f1,fM (f_ d f2) dH,f3,?_,J⟩,?_⟩
   ·dsimp only at f4⊢;omega
   ·show(R.2.1.End - R.2.1.At).toNat < (m.End - m.At).toNat
    rw[a2];dsimp only at fE fA fL;omega
theorem aj8 (p:aC)(g:aX)(v:ae)(o:Op)(c:ai)(h:pG p/\inD v (tagdec_reader.mk p c)/\(g∈p.Progs/\o∈g.Ops/\o.Kind≠10/\1<=o.Num/\o.Num<=65535)/\wV p v g):Is (r25pack p g v o c):=
 (afR h.1 (HY p) h.2.1 h.2.2.1.1 h.2.2.1.2.1 h.2.2.1.2.2.1 h.2.2.1.2.2.2 h.2.2.2).1
noncomputable def anR:bi Z:=E1 [wK,AQ,zS,zM,Zd,LD,Zv,DD,P_,awn] [jS 15 (bD (fun b=>[.cells (pid (b 7)) (nn 7), .cells (pid (b 17)) (nn 6)]) (aJ cd_AVal (l1 cd_Cursor))),jS 100015 (bD (fun b=>[.cells (pid (b 17)) (nn 6), .cells (pid (b 7)) (nn 7)]) (aJ cd_Cursor aaJ))] aHG aFM [] func468 3 (fun a=>r25pack a.1 a.2.1 a.2.2.1 a.2.2.2.1 a.2.2.2.2) (fun a=>pG a.1/\inD a.2.2.1 (tagdec_reader.mk a.1 a.2.2.2.2)/\(a.2.1∈a.1.Progs/\a.2.2.2.1∈a.2.1.Ops/\a.2.2.2.1.Kind≠10/\1<=a.2.2.2.1.Num/\a.2.2.2.1.Num<=65535)/\wV a.1 a.2.2.1 a.2.1) fun a h=>aj8 a.1 a.2.1 a.2.2.1 a.2.2.2.1 a.2.2.2.2 h
end
end Go.Proofs.YtenjnekcoapajaaGreatDoor

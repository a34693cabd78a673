/- Codecs: scalars and packed lists read. -/
import Derived.Test.YtebmficbjhcohaaGreatDoorP3
namespace Go.Proofs.YtebmficbjhcohaaGreatDoor
noncomputable section
open Go.RowKit Go.Vc
open Tryz
set_option linter.unusedVariables false
set_option linter.unusedSimpArgs false
set_option maxRecDepth 100000
def TJ (p:df)(o:Op):Prop:=(o.Kind=10->0<=o.Target/\o.Target < p.bg.length)/\(o.Card=5->iy o.Key=true)/\1<=o.Num/\o.Num<=65535
def dR (p:df):Prop:=∀g∈p.bg,g.Ops.length<=1048576/\∀o∈g.Ops,TJ p o
def H_ (v:af)(r:ae):Prop:=mM r.c/\dR r.p/\kV v/\(tV v:Int)+8*(r.c.End - r.c.At)<=1048576
def FT (k s:Int)(v:af)(r:ae)(x:af×Int×ae):Prop:=x.2.1=0->x.2.2.p=r.p/\Dc k r.c x.2.2.c/\kV x.1/\(tV x.1:Int)+s<=tV v+8*(x.2.2.c.At - r.c.At)
theorem aAq {v:af}{r:ae}(h:H_ v r):gV v:=⟨h.2.2.1,by obtain⟨⟨⟨e,a,b,d⟩,_⟩,_,_,c⟩:=h;omega⟩
theorem Iw {v:af}{r:ae}(h:H_ v r):v.bT.length<=1048576/\v.Slots.length<=1048576/\v.List.length<=1048576/\nV v.Pairs:=qg (aAq h)
theorem ayH {k s:Int}{v w:af}{r a:ae}(h:H_ v r)(g:0<=s)(d:a.p=r.p)(b:Dc k r.c a.c)(c:kV w)(j:(tV w:Int)+s<=tV v+8*(a.c.At - r.c.At)):H_ w a:=by
 obtain⟨m,e,i,l⟩:=h;have f:=b.2.2.1;exact⟨b.1,by rw[d];exact e,c,by omega⟩
theorem gX {k s:Int}{v:af}{r:ae}{x:af×Int×ae}(h:¬x.2.1=0):FT k s v r x:=fun e=>absurd e h
theorem R_ {v:af}{r:ae}(h:H_ v r)(num:Int):(fM v num).1.List.length<=1048576/\nV (fM v num).1.Pairs:=by
 have b:=aAq h;have a:gV (fM v num).1:=⟨E5 b.1,by have:=(QS (v:=v) (num:=num)).1;have:=b.2;omega⟩;exact⟨(qg a).2.2.1,(qg a).2.2.2⟩
theorem v_ {r:ae}{n:Int}(h:mM r.c)(a:(mF n r).1=0):(mF n r).2.p=r.p/\Dc 0 r.c (mF n r).2.c/\(mF n r).2.c.At=r.c.At:=by
 unfold mF afG at a⊢;simp only[dV,bu]at a⊢;obtain⟨c,d,b,_⟩:=w_ h a;exact⟨by trivial,c,b⟩
theorem amk {c:aN}(h:mM c)(a:(GM c).2.2=0):Dc 1 c (GM c).2.1/\(GM c).2.1.Nodes=c.Nodes/\(GM c).2.1.At=c.At+1:=by
 have d:=qA h;unfold GM aiF at a⊢;simp only[lG,dV,cO,bu]at a⊢;rw[d]at a⊢;by_cases b:c.End - c.At < 1
 ·rw[wO b]at a;cases a
 rw[sQ b];refine⟨EL h qp au qp,?_,?_⟩
 ·show(qG c 1).Nodes=_;rw[(FD h (n:=1) au au).1]
 ·show(qG c 1).At=_;rw[(FD h (n:=1) au au).1]
def vg (c:aN)(n:Int):aN:=aN.mk c.Data c.At (c.At+n) c.Depth c.Nodes c.Text
theorem acd {c:aN}{n:Int}(h:mM c)(i:0<=n)(g:n<=c.End - c.At):mM (vg c n):=by
 obtain⟨⟨d,e,f,b⟩,a⟩:=h;exact⟨⟨d,by show c.At<=c.At+n;omega,by show c.At+n<=c.Data.length;omega,b⟩,a⟩
theorem adY {r:ae}{n:Int}(h:mM r.c)(g:0<=n)(f:n<=r.c.End - r.c.At):Ut n r=(r.c,ae.mk r.p (vg r.c n)):=by
 obtain⟨⟨d,b,e,c⟩,a⟩:=h;unfold Ut arp vg;simp only[bu];rw[eQ (k:= .i64) ve]
theorem Vb {c d:aN}{n:Int}(h:mM c)(s:0<=n)(r:n<=c.End - c.At)(i:Dc 0 (vg c n) d):Dc n c (aN.mk c.Data d.End c.End c.Depth d.Nodes c.Text):=by
 obtain⟨⟨⟨o,u,p,l⟩,k,a,j⟩,d2,d3,d4,d5,d6,d7⟩:=i;obtain⟨⟨q,t,g,f⟩,e,m,b⟩:=h;have d3:d.End=c.At+n:=d3;have d6:d.Nodes<=c.Nodes:=d6;exact⟨⟨⟨by show 0<=d.End;omega,by show d.End<=c.End;omega,g,f⟩,e,⟨a.1,a.2⟩,b⟩,rfl,rfl,rfl,rfl,d6,by show c.At+n<=d.End;omega⟩
theorem at_end {c:aN}(h:mM c)(a:¬0 < t_ c):c.At=c.End:=by
 rw[qA h]at a;obtain⟨⟨e,b,f,d⟩,_⟩:=h;omega
theorem aqH {c d:aN}(h:mM c)(f:c.At<=d.End)(a:d.End<=c.End)(b:0<=d.Nodes)(e:d.Nodes<=c.Nodes):FN c d=aN.mk c.Data d.End c.End c.Depth d.Nodes c.Text:=by
 unfold FN ahf;simp only[cO,bu];rw[Nb h,sQ (show ¬d.End < c.At by omega),sQ (show ¬c.End < d.End by omega),sQ (show ¬d.Nodes < 0 by omega),sQ (show ¬c.Nodes < d.Nodes by omega)];rfl
theorem agM {c:aN}(h:mM c){n:Int}(a:(PX c n).2=0):PX c n=(aN.mk c.Data c.At (c.At+n) (c.Depth - 1) c.Nodes c.Text,0)/\0<=n/\n<=c.End - c.At/\1<=c.Depth:=by
 have f:=qA h;obtain⟨⟨m,j,p,l⟩,⟨g,o⟩,i⟩:=h;unfold PX ahe at a⊢;simp only[dV,cO,bu]at a⊢;rw[f]at a⊢;by_cases e:n < 0
 ·rw[wO e]at a;cases a
 rw[sQ e]at a⊢;by_cases b:c.End - c.At < n
 ·rw[wO b]at a;cases a
 rw[sQ b]at a⊢;by_cases d:c.Depth < 1
 ·rw[wO d]at a;cases a
 rw[sQ d];rw[eQ (k:= .i64) (show Jv .i64 (c.At+n) by simp only[Jv];omega),eQ (k:= .i64) (show Jv .i64 (c.Depth - 1) by simp only[Jv];omega)];exact⟨rfl,by omega,by omega,by omega⟩
def aww (g:bD)(v:af)(o:Op)(r:ae):Pg (af×Int×ae):=.lt (mF 1 r) fun c=> .br (c.1 !=0) (.ret (v.re,c)) (.ob (mM c.2.c) (.lt (iC (DT o) c.2) fun a=> .br (a.2.1 !=0) (.ret (v.re,a.2)) (.ob (List.length a.1.Data<=1048576) (.lt (uG a.2.2.p o a.1) fun b=> .br (b.2==16) (.ob (v.re.bT.length<=1048576) (.ret ((xZ v.re (Raw.mk o.Num 0 a.1.Bits [])).re,0,a.2.2))) (.br (b.2 !=0) (.ret (v.re,b.2,a.2.2)) (.br (o.Card !=4) (.ob (v.re.Slots.length<=1048576) (.ret ((wL g v.re o b.1.re).re,0,a.2.2))) (.lt (wL g v.re o (qy (fM v.re o.Num).1.re b.1.re).re) fun f=> .lt (fM v.re o.Num) fun d=> .br (!d.2) (.lt (mF 1 a.2.2) fun e=> .br (e.1 !=0) (.ret (v.re,e)) (.ob (d.1.re.List.length<=1048576) (.ob (v.re.Slots.length<=1048576) (.ret (f.re,0,e.2))))) (.ob (d.1.re.List.length<=1048576) (.ob (v.re.Slots.length<=1048576) (.ret (f.re,0,a.2.2)))))))))))
def Ci (g:bD)(v:af)(o:Op)(r:ae):=(aww g v o r).val
theorem VR (g:bD)(v:af)(o:Op)(r:ae)(h:H_ v r/\1<=o.Num/\o.Num<=65535):jG (aww g v o r) (FT 1 0 v r):=
 by
 obtain⟨h,L⟩:=h;have b:=Iw h;have C:=R_ h o.Num;have y:=h.1;unfold aww;simp only[af.dO];refine aC fun U E=>dW (fun a=>ah (gX a)) fun B=> ?_;rw[E]at B⊢;obtain⟨O,m,Z⟩:=v_ y B;generalize mF 1 r=I at*;refine aj m.1 (aC fun S w=>dW (fun a=>ah (gX a)) fun z=> ?_);rw[w]at z⊢;obtain⟨N,G,Q,K,_⟩:=Gf m.1 z;have D:=Ou (wire:=DT o) m.1;generalize iC (DT o) I.2=c at*;have n:c.2.2.p=r.p:=G.trans O;have d:Dc 1 r.c c.2.2.c:=jY (jQ m N) qp;have P:=d.2.2.1;have h7:=d.2.2.2.2.2.2;refine aj K (aC fun T F=>dZ (fun s=>aj b.1 (ah fun _=>⟨n,d,ac5 h.2.2.1 (Rh (f:=Raw.mk o.Num 0 c.1.Bits []) L ⟨H8 0,(by decide:(0:Int)<=6)⟩ D (fun _=>rfl) (fun s=>absurd s (by decide:¬(3:Int)<=0))),?_⟩)) fun s=>dW (fun a=>ah (gX a)) fun A=> ?_)
 ·show(tV (xZ v (Raw.mk o.Num 0 c.1.Bits [])):Int)+0<=tV v+8*(c.2.2.c.At - r.c.At)
  rw[aeY];simp only[yz];omega
 rw[F]at A⊢;obtain⟨V,q,Y,k4⟩:=Uo D A;generalize uG c.2.2.p o c.1=i at*;have t1:=GI (g:=g) (v:=v) (o:=o) (x:=i.1) b.2.1;refine dW (fun a=>aj b.2.1 (ah fun _=>⟨n,d,GU b.2.1 h.2.2.1 q,?_⟩)) fun R=>aC fun t e=>aC fun X k=>dX (fun j=>aC fun W u=>dW (fun a=>ah (gX a)) fun p=> ?_) (fun j=> ?_)
 ·show(tV (wL g v o i.1):Int)+0<=tV v+8*(c.2.2.c.At - r.c.At)
  omega
 ·rw[u]at p⊢;obtain⟨M,J,x3⟩:=v_ d.1 p;rw[k];refine aj C.1 (aj b.2.1 (ah fun _=>⟨M.trans n,jY (jQ d J) qp,by rw[e];exact GU b.2.1 h.2.2.1 (Lm (E5 h.2.2.1) q),?_⟩));show(tV t:Int)+0<=tV v+8*((mF 1 c.2.2).2.c.At - r.c.At)
  have t2:=GI (g:=g) (v:=v) (o:=o) (x:=qy (fM v o.Num).1 i.1) b.2.1;have t3:=MF (l:=(fM v o.Num).1) (x:=i.1);have t4:=(QS (v:=v) (num:=o.Num)).2 (by rw[k]at j;simpa using j);rw[<-e]at t2;omega
 ·rw[k]at j⊢;refine aj C.1 (aj b.2.1 (ah fun _=>⟨n,d,by rw[e];exact GU b.2.1 h.2.2.1 (Lm (E5 h.2.2.1) q),?_⟩));show(tV t:Int)+0<=tV v+8*(c.2.2.c.At - r.c.At)
  have t2:=GI (g:=g) (v:=v) (o:=o) (x:=qy (fM v o.Num).1 i.1) b.2.1;have t3:=MF (l:=(fM v o.Num).1) (x:=i.1);have H:(fM v o.Num).2=true:=by simpa using j
  rw[<-e,H]at t2;simp only[AC]at t2;omega
def avb:aY Z:=Df [DJ,JW,adH,KJ,Zn,Yf,OL,XI] [] (ak (iE 0) (ak (aI iq) (ak (aI aK) (a1 (aI iU))))) (b1 (aS a_)) (shr [.slot 0 true (nn 7), s0 1, .cells 0 (nn 8)] (ay aK (ay cI (l1 a_)))) [] func299 2 (fun a=>aww a.1.2.1 a.1.2.2.1 a.1.2.2.2 a.2) (fun a=>H_ a.1.2.2.1 a.2/\1<=a.1.2.2.2.Num/\a.1.2.2.2.Num<=65535) fun a h=>(VR a.1.2.1 a.1.2.2.1 a.1.2.2.2 a.2 h).1
def aiV (g:bD)(v:af)(o:Op)(r:ae):Pg (af×Int×ae):=.ob (mM r.c) (.lt (jO r) fun e=> .br (e.2.1 !=0) (.ret (v.re,e.2)) (.lt (Ut e.1 e.2.2) fun a=> .ob (mM a.2.c) (.lt (GM a.2.c) fun c=> .br (c.2.2 !=0) (.ret (v.re,c.2.2,a.2)) (.lt (dA .i64 c.1) fun j=> .br (j !=DT o) (.ret (v.re,13,ae.mk a.2.p c.2.1)) (.cut (fun(h:ae×af)=> .wh ((r.c.End - r.c.At).toNat+1) default (fun(b:ae×af)=> .lt (t_ b.1.c) fun i=> .br (decide (0 < i)) (.ob (H_ b.2.re b.1/\1<=o.Num/\o.Num<=65535) (.lt (Ci g b.2.re o b.1) fun d=> .br (d.2.1 !=0) (.ret (.inr (d.1.re,d.2))) (rl (d.2.2,d.1.re)))) (.ret (.inr (b.2.re,0,aeO a.1 b.1)))) (h.1,h.2.re)) (.br (!(fM v.re o.Num).2) (.lt (mF 1 (ae.mk a.2.p c.2.1)) fun f=> .br (f.1 !=0) (.ret (.inr (v.re,f))) (.ob (v.re.Slots.length<=1048576) (rl (f.2,(wL g v.re o (af.mk 11 0 [] [] [] [] [])).re)))) (rl (ae.mk a.2.p c.2.1,v.re))))))))
def aDX (g:bD)(v:af)(o:Op)(r:ae):=(aiV g v o r).val
theorem XB (g:bD)(v:af)(o:Op)(r:ae)(h:H_ v r/\1<=o.Num/\o.Num<=65535):jG (aiV g v o r) (FT 0 0 v r):=
 by
 obtain⟨h,C⟩:=h;have p:=Iw h;have e:=h.1;unfold aiV;simp only[af.dO];refine aj e (aC fun v3 P=>dW (fun b=>ah (gX b)) fun N=> ?_);rw[P]at N⊢;obtain⟨l1,l2,L,q,s⟩:=uC e N;generalize jO r=a at*;have l7:=l1.2.2.2.2.2.2;have le:=l1.2.2.1;have O:=acd l1.1 q s;rw[adY l1.1 q s];refine aC fun v4 H=> ?_;subst H;refine aj O (aC fun v5 t=>dW (fun b=>ah (gX b)) fun w=>aC fun v6 ab=>dW (fun b=>ah (gX qcs)) fun h6=> ?_);rw[t]at w⊢;obtain⟨b1,T,u⟩:=amk O w;show jG (Pg.cut _ _) _
 dsimp only at b1 T u⊢;generalize GM (vg a.2.2.c a.1)=i at*;have f:(vg a.2.2.c a.1).At=a.2.2.c.At:=rfl;have l:(vg a.2.2.c a.1).End=a.2.2.c.At+a.1:=rfl;rw[f]at u;refine bQ (fun y=>y.1.p=r.p/\Dc 0 (vg a.2.2.c a.1) y.1.c/\kV y.2/\(tV y.2:Int)<=tV v+8*(y.1.c.At - a.2.2.c.At)) ?_ (fun y A=>oU (fun x=>x.1.p=r.p/\Dc 0 (vg a.2.2.c a.1) x.1.c/\kV x.2/\(tV x.2:Int)<=tV v+8*(x.1.c.At - a.2.2.c.At)) (fun x=>(x.1.c.End - x.1.c.At).toNat) A ?_ fun x Y=> ?_)
 ·refine dX (fun S=>aC fun v9 F=>dW (fun b=>ah (gX b)) fun K=> ?_) (fun S=>ah ⟨L,jY b1 qp,h.2.2.1,by show(tV v:Int)<=tV v+8*(i.2.1.At - a.2.2.c.At);omega⟩);rw[F]at K⊢;obtain⟨d,c,j⟩:=v_ (r:=ae.mk a.2.2.p i.2.1) b1.1 K;refine aj p.2.1 (ah ⟨d.trans L,jY (jQ b1 c) qp,GU p.2.1 h.2.2.1 (jU 11 0 [] u0).1,?_⟩);have t2:=GI (g:=g) (v:=v) (o:=o) (x:=af.mk 11 0 [] [] [] [] []) p.2.1;have t3:=(jU 11 0 [] u0).2;have j:(mF 1 (ae.mk a.2.2.p i.2.1)).2.c.At=i.2.1.At:=j;simp only[yz]at t3;show(tV (wL g v o (af.mk 11 0 [] [] [] [] [])):Int)<=tV v+8*((mF 1 (ae.mk a.2.2.p i.2.1)).2.c.At - a.2.2.c.At)
  omega
 ·obtain⟨y1,⟨⟨⟨q1,q2,q3,q4⟩,_⟩,aa,M,ac,al,ag,D⟩,y3,y4⟩:=A;rw[l]at M;rw[f]at D;have:=e.1.1;show(y.1.c.End - y.1.c.At).toNat < (r.c.End - r.c.At).toNat+1
  omega
 ·obtain⟨d,c,j,x4⟩:=Y;have Z:=c.2.2.1;have Q:=c.2.2.2.2.2.2;rw[l]at Z;rw[f]at Q;have n:H_ x.2 x.1:=⟨c.1,by rw[d];exact h.2.1,j,by have:=h.2.2.2;omega⟩;refine aC fun v7 I=>bK (fun ad=> ?_) (fun m=>ah ?_)
  ·refine aj ⟨n,C⟩ (aC fun v8 X=>dW (fun b=>ah (gX b)) fun J=>ah ?_);rw[X]at J⊢;obtain⟨R,k,U,E⟩:=(VR g x.2 o x.1 ⟨n,C⟩).2 J;have z:=k.2.2.2.2.2.2;have B:=k.2.2.1;have G:=k.1.1.2.1;refine⟨⟨R.trans d,jY (jQ c k) qp,U,?_⟩,?_⟩
   ·show(tV (Ci g x.2 o x.1).1:Int)<=tV v+8*((Ci g x.2 o x.1).2.2.c.At - a.2.2.c.At)
    have E:(tV (Ci g x.2 o x.1).1:Int)+0<=tV x.2+8*((Ci g x.2 o x.1).2.2.c.At - x.1.c.At):=E;omega
   ·show((Ci g x.2 o x.1).2.2.c.End - (Ci g x.2 o x.1).2.2.c.At).toNat < (x.1.c.End - x.1.c.At).toNat
    have z:x.1.c.At+1<=(Ci g x.2 o x.1).2.2.c.At:=z;have B:(Ci g x.2 o x.1).2.2.c.End=x.1.c.End:=B;have G:(Ci g x.2 o x.1).2.2.c.At<=(Ci g x.2 o x.1).2.2.c.End:=G;omega
  ·rw[I]at m;have W:=at_end c.1 m;have V:=Vb l1.1 q s c;refine fun _=>⟨d,jY (jQ l1 V) au,j,?_⟩;show(tV x.2:Int)+0<=tV v+8*(x.1.c.End - r.c.At)
   omega
def ay4:aY Z:=Df [DJ,JW,xJ,KJ,avb,Fg,akN,YH,Zn,aw5] [jS 17 (bJ (fun b=>[.cells (pid (b 0)) (nn 8), .cells (pid (b 6)) (nn 7)]) (ay a_ (l1 aK))),jS 100017 (bJ (fun b=>[.cells (pid (b 0)) (nn 8), .cells (pid (b 6)) (nn 7)]) (ay a_ (l1 aK)))] (ak (iE 0) (ak (aI iq) (ak (aI aK) (a1 (aI iU))))) (b1 (aS a_)) (shr [.slot 0 true (nn 7), s0 1, .cells 0 (nn 8)] (ay aK (ay cI (l1 a_)))) [] func296 2 (fun a=>aiV a.1.2.1 a.1.2.2.1 a.1.2.2.2 a.2) (fun a=>H_ a.1.2.2.1 a.2/\1<=a.1.2.2.2.Num/\a.1.2.2.2.Num<=65535) fun a h=>(XB a.1.2.1 a.1.2.2.1 a.1.2.2.2 a.2 h).1
def aar (m:Int->af->ae->af×Int×ae)(iJ:Int->af->ae->Prop)(e:bD->af->Op->Int->ae->af×Int×ae)(jD:bD->af->Op->Int->ae->Prop)(k:Int->af->Int->ae->af×Int×ae)(gG:Int->af->Int->ae->Prop)(n:bD->af->Op->ae->af×Int×ae)(iK:bD->af->Op->ae->Prop)(j:bD->af->Op->ae->af×Int×ae)(jI:bD->af->Op->ae->Prop)(l:Op->Int->ae->af×Int×ae)(jZ:Op->Int->ae->Prop)(prog:Int)(v:af)(r:ae):Pg (af×Int×ae):=.ix prog r.p.bg.length (.wh ((r.c.End - r.c.At).toNat+1) default (fun(c:ae×af)=> .lt (t_ c.1.c) fun i=> .br (decide (0 < i)) (.ob (mM c.1.c) (.lt (sU c.1.c) fun b=> .br (b.2.2.2 !=0) (.ret (.inr (c.2.re,b.2.2.2,c.1))) (.cut (fun(f:ae×af)=> .ob (mM c.1.c) (.lt (uU c.1.c) fun g=> .br (g.2.2 !=0) (.ret (.inr (f.2.re,g.2.2,f.1))) (.ob (f.2.re.bT.length<=1048576) (rl (ae.mk f.1.p g.2.1,(xZ f.2.re g.1).re))))) (.as ((r.p.bg.getD prog.toNat bV).Ops.length<=9223372036854775807) (.each false oG (r.p.bg.getD prog.toNat bV).Ops Ak (fun h d (a:ae×af)=> .ix h (r.p.bg.getD prog.toNat bV).Ops.length (.br (d.Num !=b.1) (rl (a.1,a.2.re)) (.ob (jD (r.p.bg.getD prog.toNat bV) a.2.re d b.2.1 (ae.mk a.1.p b.2.2.1)) (.br ((e (r.p.bg.getD prog.toNat bV) a.2.re d b.2.1 (ae.mk a.1.p b.2.2.1)).2.1 !=0) (.ret (.inr (.inr (.inr ((e (r.p.bg.getD prog.toNat bV) a.2.re d b.2.1 (ae.mk a.1.p b.2.2.1)).1.re, (e (r.p.bg.getD prog.toNat bV) a.2.re d b.2.1 (ae.mk a.1.p b.2.2.1)).2))))) (.ret (.inr (.inr (.inl ((e (r.p.bg.getD prog.toNat bV) a.2.re d b.2.1 (ae.mk a.1.p b.2.2.1)).2.2, (e (r.p.bg.getD prog.toNat bV) a.2.re d b.2.1 (ae.mk a.1.p b.2.2.1)).1.re))))))))) (fun h (a:ae×af)=> rl (a.1,a.2.re)) (c.1,c.2.re)))))) (.ret (.inr (c.2.re,0,c.1)))) (r,v.re))
def afy (j:Int->af->ae->af×Int×ae)(iJ:Int->af->ae->Prop)(f:bD->af->Op->Int->ae->af×Int×ae)(jD:bD->af->Op->Int->ae->Prop)(h:Int->af->Int->ae->af×Int×ae)(gG:Int->af->Int->ae->Prop)(b:bD->af->Op->ae->af×Int×ae)(iK:bD->af->Op->ae->Prop)(d:bD->af->Op->ae->af×Int×ae)(jI:bD->af->Op->ae->Prop)(i:Op->Int->ae->af×Int×ae)(jZ:Op->Int->ae->Prop)(g:bD)(v:af)(o:Op)(w:Int)(r:ae):Pg (af×Int×ae):=.br (o.Card==5) (.br (w !=6) (.ret (v.re,13,r)) (.ob (jI g v.re o r) (.ret ((d g v.re o r).1.re,(d g v.re o r).2)))) (.lt (Ci g v.re o r) fun a=> .lt (DT o) fun e=> .br (w==5) (.br (kM o) (.ob (H_ v.re r/\1<=o.Num/\o.Num<=65535) (.lt (aDX g v.re o r) fun c=> .ret (c.1.re,c.2))) (.br (w !=e) (.ret (v.re,13,r)) (.br (o.Kind==10) (.ob (iK g v.re o r) (.ret ((b g v.re o r).1.re,(b g v.re o r).2))) (.ob (H_ v.re r/\1<=o.Num/\o.Num<=65535) (.ret (a.1.re,a.2)))))) (.br (w !=e) (.ret (v.re,13,r)) (.br (o.Kind==10) (.ob (iK g v.re o r) (.ret ((b g v.re o r).1.re,(b g v.re o r).2))) (.ob (H_ v.re r/\1<=o.Num/\o.Num<=65535) (.ret (a.1.re,a.2))))))
def aax (d:Int->af->ae->af×Int×ae)(iJ:Int->af->ae->Prop)(g:bD->af->Op->Int->ae->af×Int×ae)(jD:bD->af->Op->Int->ae->Prop)(i:Int->af->Int->ae->af×Int×ae)(gG:Int->af->Int->ae->Prop)(k:bD->af->Op->ae->af×Int×ae)(iK:bD->af->Op->ae->Prop)(h:bD->af->Op->ae->af×Int×ae)(jI:bD->af->Op->ae->Prop)(j:Op->Int->ae->af×Int×ae)(jZ:Op->Int->ae->Prop)(prog:Int)(a:af)(f:Int)(r:ae):Pg (af×Int×ae):=.ob (mM r.c) (.lt (jO r) fun c=> .br (c.2.1 !=0) (.ret (a.re,c.2)) (.lt (PX c.2.2.c c.1) fun e=> .br (e.2 !=0) (.ret (a.re,e.2,ae.mk c.2.2.p e.1)) (.lt (mF f (ae.mk c.2.2.p e.1)) fun b=> .br (b.1 !=0) (.ret (a.re,b)) (.ob (iJ prog a.re b.2) (.br ((d prog a.re b.2).2.1 !=0) (.ret (a.re,(d prog a.re b.2).2)) (.ret ((d prog a.re b.2).1.re,0, ae.mk (d prog a.re b.2).2.2.p (FN c.2.2.c (d prog a.re b.2).2.2.c))))))))
def Zd (i:Int->af->ae->af×Int×ae)(iJ:Int->af->ae->Prop)(e:bD->af->Op->Int->ae->af×Int×ae)(jD:bD->af->Op->Int->ae->Prop)(a:Int->af->Int->ae->af×Int×ae)(gG:Int->af->Int->ae->Prop)(j:bD->af->Op->ae->af×Int×ae)(iK:bD->af->Op->ae->Prop)(f:bD->af->Op->ae->af×Int×ae)(jI:bD->af->Op->ae->Prop)(h:Op->Int->ae->af×Int×ae)(jZ:Op->Int->ae->Prop)(g:bD)(v:af)(o:Op)(r:ae):Pg (af×Int×ae):=.lt (fM v.re o.Num) fun b=> .br (o.Card==4) (.cut (fun(d:Int)=> .ob (gG o.Target (af.mk 10 0 [] [] [] [] []) d r) (.br ((a o.Target (af.mk 10 0 [] [] [] [] []) d r).2.1 !=0) (.ret (v.re,(a o.Target (af.mk 10 0 [] [] [] [] []) d r).2)) (.ob (b.1.re.List.length<=1048576) (.ob (v.re.Slots.length<=1048576) (.ret ((wL g v.re o (qy b.1.re (a o.Target (af.mk 10 0 [] [] [] [] []) d r).1.re).re).re,0, (a o.Target (af.mk 10 0 [] [] [] [] []) d r).2.2)))))) (.br (!b.2) (rl 2) (rl 1))) (.cut (fun(c:af)=> .ob (gG o.Target c.re 1 r) (.br ((a o.Target c.re 1 r).2.1 !=0) (.ret (v.re,(a o.Target c.re 1 r).2)) (.ob (v.re.Slots.length<=1048576) (.ret ((wL g v.re o (a o.Target c.re 1 r).1.re).re,0,(a o.Target c.re 1 r).2.2))))) (.br (!b.2) (rl (af.mk 10 0 [] [] [] [] [])) (rl b.1.re)))
def agj (s:Int->af->ae->af×Int×ae)(iJ:Int->af->ae->Prop)(p:bD->af->Op->Int->ae->af×Int×ae)(jD:bD->af->Op->Int->ae->Prop)(m:Int->af->Int->ae->af×Int×ae)(gG:Int->af->Int->ae->Prop)(q:bD->af->Op->ae->af×Int×ae)(iK:bD->af->Op->ae->Prop)(l:bD->af->Op->ae->af×Int×ae)(jI:bD->af->Op->ae->Prop)(d:Op->Int->ae->af×Int×ae)(jZ:Op->Int->ae->Prop)(g:bD)(v:af)(o:Op)(r:ae):Pg (af×Int×ae):=.ob (mM r.c) (.lt (jO r) fun e=> .br (e.2.1 !=0) (.ret (v.re,e.2)) (.lt (fM v.re o.Num) fun c=> .cut (fun(k:Int)=> .lt (mF k (Ut e.1 e.2.2).2) fun h=> .br (h.1 !=0) (.ret (v.re,h)) (.wh ((r.c.End - r.c.At).toNat+1) default (fun(a:Bool×Bool×ae×Pair)=> .lt (t_ a.2.2.1.c) fun j=> .br (decide (0 < j)) (.ob (mM a.2.2.1.c) (.lt (sU a.2.2.1.c) fun b=> .cut (fun(n:Unit)=> .br (b.1==1) (.ob (jZ (Op.mk 0 [] [] 0 0 o.Key (-1) 0) b.2.1 (ae.mk a.2.2.1.p b.2.2.1)) (.br ((d (Op.mk 0 [] [] 0 0 o.Key (-1) 0) b.2.1 (ae.mk a.2.2.1.p b.2.2.1)).2.1 != 0) (.ret (.inr (v.re, (d (Op.mk 0 [] [] 0 0 o.Key (-1) 0) b.2.1 (ae.mk a.2.2.1.p b.2.2.1)).2))) (rl (true,a.2.1, (d (Op.mk 0 [] [] 0 0 o.Key (-1) 0) b.2.1 (ae.mk a.2.2.1.p b.2.2.1)).2.2, Pair.mk (d (Op.mk 0 [] [] 0 0 o.Key (-1) 0) b.2.1 (ae.mk a.2.2.1.p b.2.2.1)).1.re a.2.2.2.Val.re)))) (.ob (jZ o b.2.1 (ae.mk a.2.2.1.p b.2.2.1)) (.br ((d o b.2.1 (ae.mk a.2.2.1.p b.2.2.1)).2.1 !=0) (.ret (.inr (v.re,(d o b.2.1 (ae.mk a.2.2.1.p b.2.2.1)).2))) (rl (a.1,true,(d o b.2.1 (ae.mk a.2.2.1.p b.2.2.1)).2.2, Pair.mk a.2.2.2.Key.re (d o b.2.1 (ae.mk a.2.2.1.p b.2.2.1)).1.re))))) (.br (b.2.2.2 !=0) (.ret (.inr (.inr (v.re,b.2.2.2,a.2.2.1)))) (.br (b.1 !=1) (.br (b.1 !=2) (.ret (.inr (.inr (v.re,18,a.2.2.1)))) (.br (b.1==1) (.br a.1 (.ret (.inr (.inr (v.re,9,a.2.2.1)))) (.br (b.1==2) (.br a.2.1 (.ret (.inr (.inr (v.re,9,a.2.2.1)))) (rl ())) (rl ()))) (.br (b.1==2) (.br a.2.1 (.ret (.inr (.inr (v.re,9,a.2.2.1)))) (rl ())) (rl ())))) (.br (b.1==1) (.br a.1 (.ret (.inr (.inr (v.re,9,a.2.2.1)))) (.br (b.1==2) (.br a.2.1 (.ret (.inr (.inr (v.re,9,a.2.2.1)))) (rl ())) (rl ()))) (.br (b.1==2) (.br a.2.1 (.ret (.inr (.inr (v.re,9,a.2.2.1)))) (rl ())) (rl ()))))))) (aL c.1.Pairs (.ob (0<=(↑c.1.Pairs.length:Int)/\ (↑c.1.Pairs.length:Int)=(↑c.1.Pairs.length:Int)/\(↑c.1.Pairs.length:Int)<=(↑c.1.Pairs.length:Int)) (.lt (List.take c.1.Pairs.length c.1.Pairs) fun i=> .ob (0 < 1/\dE (i.length+1) 256) (.lt (i++[Pair.mk a.2.2.2.Key.re a.2.2.2.Val.re]) fun(f:List Pair)=> .ob (nV f) (.ob (v.re.Slots.length<=1048576) (.ret (.inr ((wL g v.re o (af.mk 12 0 [] [] (nX f) [] [])).re,0, aeO (Ut e.1 e.2.2).1 a.2.2.1))))))))) (false,false,h.2,Pair.mk (af.mk o.Key 0 [] [] [] [] []) (af.mk o.Kind 0 [] [] [] [] [])))) (.br (!c.2) (rl 3) (rl 2))))
def asN (g:Int->af->ae->af×Int×ae)(iJ:Int->af->ae->Prop)(d:bD->af->Op->Int->ae->af×Int×ae)(jD:bD->af->Op->Int->ae->Prop)(b:Int->af->Int->ae->af×Int×ae)(gG:Int->af->Int->ae->Prop)(h:bD->af->Op->ae->af×Int×ae)(iK:bD->af->Op->ae->Prop)(e:bD->af->Op->ae->af×Int×ae)(jI:bD->af->Op->ae->Prop)(f:Op->Int->ae->af×Int×ae)(jZ:Op->Int->ae->Prop)(o:Op)(w:Int)(r:ae):Pg (af×Int×ae):=.br (w !=DT o) (.ret (af.mk 0 0 [] [] [] [] [],13,r)) (.br (o.Kind==10) (.ob (gG o.Target (af.mk 10 0 [] [] [] [] []) 0 r) (.ret ((b o.Target (af.mk 10 0 [] [] [] [] []) 0 r).1.re,(b o.Target (af.mk 10 0 [] [] [] [] []) 0 r).2))) (.ob (mM r.c) (.lt (iC w r) fun a=> .br (a.2.1 !=0) (.ret (af.mk 0 0 [] [] [] [] [],a.2)) (.ob (List.length a.1.Data<=1048576) (.lt (uG a.2.2.p o a.1) fun c=> .ret (c.1.re,c.2,a.2.2))))))
def iJ (a:Nat)(prog:Int)(v:af)(r:ae):Prop:=H_ v r/\(0<=prog/\prog < r.p.bg.length)/\5*r.c.Depth+5<=a
def jD (a:Nat)(g:bD)(v:af)(o:Op)(w:Int)(r:ae):Prop:=H_ v r/\TJ r.p o/\5*r.c.Depth+4<=a
def gG (b:Nat)(prog:Int)(a:af)(c:Int)(r:ae):Prop:=H_ a r/\(0<=prog/\prog < r.p.bg.length)/\5*r.c.Depth+1<=b
def iK (a:Nat)(g:bD)(v:af)(o:Op)(r:ae):Prop:=H_ v r/\(0<=o.Target/\o.Target < r.p.bg.length)/\5*r.c.Depth+2<=a
def jI (a:Nat)(g:bD)(v:af)(o:Op)(r:ae):Prop:=H_ v r/\TJ r.p o/\o.Card=5/\5*r.c.Depth+3<=a
def jZ (a:Nat)(o:Op)(w:Int)(r:ae):Prop:=H_ (af.mk 10 0 [] [] [] [] []) r/\(o.Kind=10->0<=o.Target/\o.Target < r.p.bg.length)/\5*r.c.Depth+2<=a
def mf:Nat->(Int->af->ae->(af×Int×ae))×(bD->af->Op->Int->ae->(af×Int×ae))×(Int->af->Int->ae->(af×Int×ae))×(bD->af->Op->ae->(af×Int×ae))×(bD->af->Op->ae->(af×Int×ae))×(Op->Int->ae->(af×Int×ae))
 | 0=>(fun _ _ _=>default,fun _ _ _ _ _=>default,fun _ _ _ _=>default,fun _ _ _ _=>default,fun _ _ _ _=>default,fun _ _ _=>default)
 | a+1=>(fun prog v r=>(aar ((mf a).1) (iJ a) ((mf a).2.1) (jD a) ((mf a).2.2.1) (gG a) ((mf a).2.2.2.1) (iK a) ((mf a).2.2.2.2.1) (jI a) ((mf a).2.2.2.2.2) (jZ a) prog v r).val,fun g v o w r=>(afy ((mf a).1) (iJ a) ((mf a).2.1) (jD a) ((mf a).2.2.1) (gG a) ((mf a).2.2.2.1) (iK a) ((mf a).2.2.2.2.1) (jI a) ((mf a).2.2.2.2.2) (jZ a) g v o w r).val,fun prog c b r=>(aax ((mf a).1) (iJ a) ((mf a).2.1) (jD a) ((mf a).2.2.1) (gG a) ((mf a).2.2.2.1) (iK a) ((mf a).2.2.2.2.1) (jI a) ((mf a).2.2.2.2.2) (jZ a) prog c b r).val,fun g v o r=>(Zd ((mf a).1) (iJ a) ((mf a).2.1) (jD a) ((mf a).2.2.1) (gG a) ((mf a).2.2.2.1) (iK a) ((mf a).2.2.2.2.1) (jI a) ((mf a).2.2.2.2.2) (jZ a) g v o r).val,fun g v o r=>(agj ((mf a).1) (iJ a) ((mf a).2.1) (jD a) ((mf a).2.2.1) (gG a) ((mf a).2.2.2.1) (iK a) ((mf a).2.2.2.2.1) (jI a) ((mf a).2.2.2.2.2) (jZ a) g v o r).val,fun o w r=>(asN ((mf a).1) (iJ a) ((mf a).2.1) (jD a) ((mf a).2.2.1) (gG a) ((mf a).2.2.2.1) (iK a) ((mf a).2.2.2.2.1) (jI a) ((mf a).2.2.2.2.2) (jZ a) o w r).val)
def SL (prog:Int)(v:af)(r:ae):af×Int×ae:=(mf ((5*r.c.Depth+5).toNat)).1 prog v r
def Hr (a:Nat):Prop:=(∀(prog:Int) (v:af) (r:ae),iJ a prog v r->(fun x=>FT 0 0 v r x/\(x.2.1=0->x.2.2.c.At=x.2.2.c.End)) ((mf a).1 prog v r))/\(∀(g:bD) (v:af) (o:Op) (w:Int) (r:ae),jD a g v o w r->(FT 0 0 v r) ((mf a).2.1 g v o w r))/\(∀(prog:Int) (b:af) (c:Int) (r:ae),gG a prog b c r->(FT 0 8 b r) ((mf a).2.2.1 prog b c r))/\(∀(g:bD) (v:af) (o:Op) (r:ae),iK a g v o r->(FT 0 0 v r) ((mf a).2.2.2.1 g v o r))/\(∀(g:bD) (v:af) (o:Op) (r:ae),jI a g v o r->(FT 0 0 v r) ((mf a).2.2.2.2.1 g v o r))/\(∀(o:Op) (w:Int) (r:ae),jZ a o w r->(fun x=>x.2.1=0->x.2.2.p=r.p/\Dc 0 r.c x.2.2.c/\kV x.1/\(tV x.1:Int)<=8*(x.2.2.c.At - r.c.At)/\(¬o.Kind=10->iy x.1.Kind=true)) ((mf a).2.2.2.2.2 o w r))
theorem Uf:tV (af.mk 10 0 [] [] [] [] [])=1:=(jU 10 0 [] u0).2
theorem aqv {c:aN}(h:mM c):Dc 0 c c:=⟨h,rfl,rfl,rfl,rfl,H8 _,by omega⟩
theorem ann {k j s:Int}{v:af}{r:ae}{x:af×Int×ae}(h:FT k s v r x)(a:j<=k):FT j s v r x:=fun e=>⟨(h e).1,jY (h e).2.1 a,(h e).2.2⟩
theorem ayC {v:af}{r:ae}(h:H_ v r):H_ (af.mk 10 0 [] [] [] [] []) r:=⟨h.1,h.2.1,(jU 10 0 [] u0).1,by have:=h.2.2.2;have:=kZ v;rw[Uf];omega⟩
theorem amU {c d:aN}{n:Int}(h:mM c)(q:0<=n)(p:n<=c.End - c.At)(e:d.End=c.At+n)(b:0<=d.Nodes)(a:d.Nodes<=c.Nodes):Dc n c (FN c d)/\(FN c d).At=c.At+n:=by
 have j:=h;obtain⟨⟨m,l,k,i⟩,f,o,g⟩:=h;rw[aqH j au au b a];exact⟨⟨⟨⟨by show 0<=d.End;omega,by show d.End<=c.End;omega,k,i⟩,f,⟨b,by show d.Nodes<=1099511627776;omega⟩,g⟩,rfl,rfl,rfl,rfl,a,by show c.At+n<=d.End;omega⟩,e⟩
theorem aIS (l:List Pair):tV (af.mk 12 0 [] [] l [] [])=1+tPs l:=by simp[tV,tVs,tSs,WI]
theorem anr {a:af}{x:Pair}(g:kV a)(d:nV (a.Pairs++[x]))(h:iy x.Key.Kind=true/\kV x.Key)(f:kV x.Val):kV (af.mk 12 0 [] [] (nX (a.Pairs++[x])) [] [])/\tV (af.mk 12 0 [] [] (nX (a.Pairs++[x])) [] [])<=tV a+1+tV x.Key+tV x.Val:=by
 have t1:=Ue d;rw[oL]at t1;simp only[kD,Yb]at t1;have t2:=iV a;have t3:=yT a.Pairs;constructor
 ·have c:=((iW a).1 g).2.2.1;rw[iW];refine⟨⟨u0,fun y b=>absurd b (Yg)⟩,fun y b=>absurd b (Yg),fun y b=> ?_,fun y b=>absurd b (Yg)⟩;have b:y∈nX (a.Pairs++[x]):=b;rcases u_.1 (He d b)with e | e
  ·exact c y e
  ·rw[BH.1 e];exact⟨h,f⟩
 ·rw[aIS,yT];omega
abbrev E8 (a:Nat):=aar ((mf a).1) (iJ a) ((mf a).2.1) (jD a) ((mf a).2.2.1) (gG a) ((mf a).2.2.2.1) (iK a) ((mf a).2.2.2.2.1) (jI a) ((mf a).2.2.2.2.2) (jZ a)
theorem NV (g:Nat)(I:Hr g)(prog:Int)(v:af)(r:ae)(h:iJ (g+1) prog v r):jG (E8 g prog v r) (fun x=>FT 0 0 v r x/\(x.2.1=0->x.2.2.c.At=x.2.2.c.End)):=
 by
 obtain⟨m,D,h3⟩:=h;have H:=m.2.1 _ (getD_mem (d:=bV) (l:=r.p.bg) (i:=prog.toNat) au);unfold E8 aar;simp only[af.dO];refine aU D.1 D.2 (oU (fun x=>x.1.p=r.p/\Dc 0 r.c x.1.c/\kV x.2/\(tV x.2:Int)+0<=tV v+8*(x.1.c.At - r.c.At)) (fun x=>(x.1.c.End - x.1.c.At).toNat) ⟨rfl,aqv m.1,m.2.2.1,by dsimp only;omega⟩ (Nat.lt_succ_self _) fun x R=> ?_);obtain⟨f,b,q,B⟩:=R;have t:H_ x.2 x.1:=ayH m (H8 0) f b q B;have xD:=b.2.2.2.1;refine aC fun Z z=>bK (fun S=>aj b.1 (aC fun W F=>dW (fun a=>ah ⟨gX a,fun e=>absurd e a⟩) fun u=> ?_)) (fun C=>ah ⟨fun _=>⟨f,b,q,B⟩,fun _=>at_end b.1 (z▸C)⟩);rw[F]at u⊢;obtain⟨n,u2⟩:=zN b.1 u;have N:=am1 b.1;have G:=amL b.1;have A:=awT b.1;generalize sU x.1.c=c at*;have X:=n.2.2.2.1;have uE:=n.2.2.1;have uA:=n.2.2.2.2.2.2;refine bQ (fun y=>y=(x.1,x.2)) (dw <| bY (fun _ y=>y=(x.1,x.2)) rfl (by have:=H.1;omega) (fun i y L j=> ?_) fun y j=>ah j) fun y j=> ?_
 ·subst j;have K:=H.2 _ (getD_mem (d:=Ak) L);have P:H_ x.2 (ae.mk x.1.p c.2.2.1):=⟨n.1,by show dR x.1.p;rw[f];exact m.2.1,q,by have:=t.2.2.2;show(tV x.2:Int)+8*(c.2.2.1.End - c.2.2.1.At)<=1048576;omega⟩;have E:jD g (r.p.bg.getD prog.toNat bV) x.2 ((r.p.bg.getD prog.toNat bV).Ops.getD i Ak) c.2.1 (ae.mk x.1.p c.2.2.1):=⟨P,by show TJ x.1.p _;rw[f];exact K,by show 5*c.2.2.1.Depth+4<=(g:Int);omega⟩;have k:=I.2.1 _ _ _ _ _ E;refine aU au au (dW (fun _=>ah rfl) fun _=>aj E (dW (fun a=>ah ⟨gX a,fun e=>absurd e a⟩) fun O=>ah ?_));obtain⟨f1,f2,f3,f4⟩:=k O;dsimp only;generalize (mf g).2.1 (r.p.bg.getD prog.toNat bV) x.2 ((r.p.bg.getD prog.toNat bV).Ops.getD i Ak) c.2.1 (ae.mk x.1.p c.2.2.1)=w at*;have f7:c.2.2.1.At+0<=w.2.2.c.At:=f2.2.2.2.2.2.2;have fE:w.2.2.c.End=c.2.2.1.End:=f2.2.2.1;have U:=f2.1.1.2.1;have f4:(tV w.1:Int)+0<=tV x.2+8*(w.2.2.c.At - c.2.2.1.At):=f4;have M:Dc 1 x.1.c w.2.2.c:=jY (jQ n f2) qp;exact⟨⟨f1.trans f,jY (jQ b M) qp,f3,by show(tV w.1:Int)+0<=tV v+8*(w.2.2.c.At - r.c.At);omega⟩,by show(w.2.2.c.End - w.2.2.c.At).toNat < (x.1.c.End - x.1.c.At).toNat;omega⟩
 ·subst j;refine aj b.1 (aC fun V Q=>dW (fun a=>ah ⟨gX a,fun e=>absurd e a⟩) fun s=>aj (Iw t).1 (ah ?_));rw[Q]at s⊢;have o:=N s;have Y:=G s;have J:=A s;generalize uU x.1.c=p at*;have nE:=o.2.2.1;have nA:=o.2.2.2.2.2.2;have T:=o.1.1.2.1;exact⟨⟨f,jY (jQ b o) qp,ac5 q J,by show(tV (xZ x.2 p.1):Int)+0<=tV v+8*(p.2.1.At - r.c.At);rw[aeY];omega⟩,by show(p.2.1.End - p.2.1.At).toNat < (x.1.c.End - x.1.c.At).toNat;omega⟩
abbrev IE (a:Nat):=afy ((mf a).1) (iJ a) ((mf a).2.1) (jD a) ((mf a).2.2.1) (gG a) ((mf a).2.2.2.1) (iK a) ((mf a).2.2.2.2.1) (jI a) ((mf a).2.2.2.2.2) (jZ a)
theorem Uu (d:Nat)(e:Hr d)(g:bD)(v:af)(o:Op)(w:Int)(r:ae)(h:jD (d+1) g v o w r):jG (IE d g v o w r) (FT 0 0 v r):=
 by
 obtain⟨b,a,n⟩:=h;unfold IE afy;simp only[af.dO];refine dZ (fun c=>dW (fun _=>ah (gX qcs)) fun _=>aj ⟨b,a,c,by omega⟩ (ah (e.2.2.2.2.1 _ _ _ _ ⟨b,a,c,by omega⟩))) fun c=>aC fun m i=>aC fun p k=> ?_;refine dZ (fun _=>dX (fun _=>aj ⟨b,a.2.2⟩ (aC fun l j=>ah (by rw[j];exact(XB g v o r ⟨b,a.2.2⟩).2))) (fun _=> ?_)) (fun _=> ?_);all_goals exact dW (fun _=>ah (gX qcs)) fun _=>dZ (fun f=>aj ⟨b,a.1 f,by omega⟩ (ah (e.2.2.2.1 _ _ _ _ ⟨b,a.1 f,by omega⟩))) fun _=>aj ⟨b,a.2.2⟩ (ah (by rw[i];exact ann (VR g v o r ⟨b,a.2.2⟩).2 qp))
abbrev EY (a:Nat):=aax ((mf a).1) (iJ a) ((mf a).2.1) (jD a) ((mf a).2.2.1) (gG a) ((mf a).2.2.2.1) (iK a) ((mf a).2.2.2.2.1) (jI a) ((mf a).2.2.2.2.2) (jZ a)
theorem O4 (j:Nat)(y:Hr j)(prog:Int)(b:af)(f:Int)(r:ae)(h:gG (j+1) prog b f r):jG (EY j prog b f r) (FT 0 8 b r):=
 by
 obtain⟨l,G,h3⟩:=h;have m:=l.1;unfold EY aax;simp only[af.dO];refine aj m (aC fun P v=>dW (fun e=>ah (gX e)) fun s=> ?_);rw[v]at s⊢;obtain⟨l1,S,o,V,X⟩:=uC m s;generalize jO r=a at*;have R:=l1.2.2.2.2.2.2;have U:=l1.2.2.1;have ld:=l1.2.2.2.1;refine aC fun L q=>dW (fun e=>ah (gX e)) fun w=> ?_;rw[q]at w⊢;obtain⟨C,A,z,M⟩:=agM l1.1 w;rw[C];refine aC fun O x=>dW (fun e=>ah (gX e)) fun t=> ?_;rw[x]at t⊢;have K:mM (aN.mk a.2.2.c.Data a.2.2.c.At (a.2.2.c.At+a.1) (a.2.2.c.Depth - 1) a.2.2.c.Nodes a.2.2.c.Text):=by
  obtain⟨⟨H,q2,q3,F⟩,T,D⟩:=l1.1;exact⟨⟨H,by show a.2.2.c.At<=a.2.2.c.At+a.1;omega,by show a.2.2.c.At+a.1<=a.2.2.c.Data.length;omega,F⟩,⟨by show 0<=a.2.2.c.Depth - 1;omega,by show a.2.2.c.Depth - 1<=1048576;omega⟩,D⟩
 obtain⟨k,i,I⟩:=v_ (r:=ae.mk a.2.2.p (aN.mk a.2.2.c.Data a.2.2.c.At (a.2.2.c.At+a.1) (a.2.2.c.Depth - 1) a.2.2.c.Nodes a.2.2.c.Text)) K t;dsimp only at k i I⊢;generalize mF f (ae.mk a.2.2.p (aN.mk a.2.2.c.Data a.2.2.c.At (a.2.2.c.At+a.1) (a.2.2.c.Depth - 1) a.2.2.c.Nodes a.2.2.c.Text))=g at*;have sE:g.2.c.End=a.2.2.c.At+a.1:=i.2.2.1;have Y:g.2.c.Depth=a.2.2.c.Depth - 1:=i.2.2.2.1;have W:g.2.c.Nodes<=a.2.2.c.Nodes:=i.2.2.2.2.2.1;have u:iJ j prog b g.2:=⟨⟨i.1,by rw[k,o];exact l.2.1,l.2.2.1,by have:=l.2.2.2;omega⟩,by rw[k,o];exact G,by omega⟩;obtain⟨E,B⟩:=y.1 prog b g.2 u;refine aj u (dW (fun e=>ah (gX e)) fun p=>ah fun _=> ?_);obtain⟨f1,f2,f3,f4⟩:=E p;have f5:=B p;dsimp only;generalize (mf j).1 prog b g.2=n at*;have Z:=f2.2.2.1;have N:=f2.2.2.2.2.2.1;have f0:=f2.1.2.2.1.1;obtain⟨J,Q⟩:=amU (c:=a.2.2.c) (d:=n.2.2.c) l1.1 A z au f0 au;refine⟨f1.trans (k.trans o),jY (jQ l1 J) au,f3,?_⟩;show(tV n.1:Int)+8<=tV b+8*((FN a.2.2.c n.2.2.c).At - r.c.At)
 omega
abbrev E_ (a:Nat):=Zd ((mf a).1) (iJ a) ((mf a).2.1) (jD a) ((mf a).2.2.1) (gG a) ((mf a).2.2.2.1) (iK a) ((mf a).2.2.2.2.1) (jI a) ((mf a).2.2.2.2.2) (jZ a)
theorem Og (c:Nat)(p:Hr c)(g:bD)(v:af)(o:Op)(r:ae)(h:iK (c+1) g v o r):jG (E_ c g v o r) (FT 0 0 v r):=
 by
 obtain⟨a,u,C⟩:=h;have f:=Iw a;have A:=R_ a o.Num;have z:=ayC a;have t4:=QS (v:=v) (num:=o.Num);unfold E_ Zd;simp only[af.dO];refine aC fun m d=>dZ (fun B=>bQ (fun _=>True) (dX (fun _=>ah trivial) (fun _=>ah trivial)) fun s _=> ?_) (fun B=>bQ (fun y=>(m.2=true/\y=m.1)\/(m.2=false/\y=af.mk 10 0 [] [] [] [] [])) (dX (fun e=>ah (.inr ⟨by simpa using e,rfl⟩)) (fun e=>ah (.inl ⟨by simpa using e,rfl⟩))) fun y q=> ?_)
 ·have i:gG c o.Target (af.mk 10 0 [] [] [] [] []) s r:=⟨z,u,by omega⟩;have k:=p.2.2.1 _ _ _ _ i;refine aj i (dW (fun j=>ah (gX j)) fun n=> ?_);obtain⟨f1,f2,f3,f4⟩:=k n;generalize (mf c).2.2.1 o.Target (af.mk 10 0 [] [] [] [] []) s r=w at*;rw[d];refine aj A.1 (aj f.2.1 (ah fun _=>⟨f1,f2,GU f.2.1 a.2.2.1 (Lm (E5 a.2.2.1) f3),?_⟩));show(tV (wL g v o (qy (fM v o.Num).1 w.1)):Int)+0<=tV v+8*(w.2.2.c.At - r.c.At)
  have t2:=GI (g:=g) (v:=v) (o:=o) (x:=qy (fM v o.Num).1 w.1) f.2.1;have t3:=MF (l:=(fM v o.Num).1) (x:=w.1);rw[Uf]at f4;cases b:(fM v o.Num).2 with
  | true=>rw[b]at t2;simp only[AC]at t2;omega
  | false=>have:=t4.2 b;rw[b]at t2;simp only[qH]at t2;omega
 ·have t:H_ y r:=by
   rcases q with⟨_,rfl⟩ | ⟨_,rfl⟩
   ·rw[d];exact⟨a.1,a.2.1,E5 a.2.2.1,by have:=a.2.2.2;omega⟩
   ·exact z
  have i:gG c o.Target y 1 r:=⟨t,u,by omega⟩;have k:=p.2.2.1 _ _ _ _ i;refine aj i (dW (fun j=>ah (gX j)) fun n=> ?_);obtain⟨f1,f2,f3,f4⟩:=k n;generalize (mf c).2.2.1 o.Target y 1 r=w at*;refine aj f.2.1 (ah fun _=>⟨f1,f2,GU f.2.1 a.2.2.1 f3,?_⟩);show(tV (wL g v o w.1):Int)+0<=tV v+8*(w.2.2.c.At - r.c.At)
  have t2:=GI (g:=g) (v:=v) (o:=o) (x:=w.1) f.2.1;rcases q with⟨b,rfl⟩ | ⟨b,rfl⟩
  ·rw[d]at b f4;rw[b]at t2;simp only[AC]at t2;omega
  ·rw[d]at b;rw[Uf]at f4;rw[b]at t2;simp only[qH]at t2;omega
abbrev IP (a:Nat):=agj ((mf a).1) (iJ a) ((mf a).2.1) (jD a) ((mf a).2.2.1) (gG a) ((mf a).2.2.2.1) (iK a) ((mf a).2.2.2.2.1) (jI a) ((mf a).2.2.2.2.2) (jZ a)
theorem TV (d:Nat)(S:Hr d)(g:bD)(v:af)(o:Op)(r:ae)(h:jI (d+1) g v o r):jG (IP d g v o r) (FT 0 0 v r):=
 by
 obtain⟨l,A,J,h4⟩:=h;have L:=Iw l;have hf:=R_ l o.Num;have q:=l.1;have hb:=l.2.2.2;have t4:=QS (v:=v) (num:=o.Num);unfold IP agj;simp only[af.dO];refine aj q (aC fun v4 R=>dW (fun c=>ah (gX c)) fun P=> ?_);rw[R]at P⊢;obtain⟨l1,l2,l3,I,N⟩:=uC q P;generalize jO r=a at*;have l7:=l1.2.2.2.2.2.2;have le:=l1.2.2.1;have ld:=l1.2.2.2.1;have hc:=acd l1.1 I N;rw[adY l1.1 I N];refine aC fun v5 Y=>bQ (fun _=>True) (dX (fun _=>ah trivial) (fun _=>ah trivial)) fun y1 _=>aC fun v6 T=>dW (fun c=>ah (gX c)) fun m=> ?_;rw[T]at m⊢;obtain⟨Z,H,W⟩:=v_ (r:=ae.mk a.2.2.p (vg a.2.2.c a.1)) hc m;dsimp only at Z H W⊢;generalize mF y1 (ae.mk a.2.2.p (vg a.2.2.c a.1))=M at*;have D:(vg a.2.2.c a.1).At=a.2.2.c.At:=rfl;have C:(vg a.2.2.c a.1).End=a.2.2.c.At+a.1:=rfl;have eD:(vg a.2.2.c a.1).Depth=a.2.2.c.Depth:=rfl;rw[D]at W;have sE:=H.2.2.1;rw[C]at sE;have h0:=q.1.1;have k1:=(jU o.Kind 0 [] u0).2;have k2:=(jU o.Key 0 [] u0).2;simp only[yz]at k1 k2;refine oU (fun x=>x.2.2.1.p=r.p/\Dc 0 (vg a.2.2.c a.1) x.2.2.1.c/\(iy x.2.2.2.Key.Kind=true/\kV x.2.2.2.Key)/\kV x.2.2.2.Val/\(tV x.2.2.2.Key:Int)+tV x.2.2.2.Val<=2+8*(x.2.2.1.c.At - a.2.2.c.At)) (fun x=>(x.2.2.1.c.End - x.2.2.1.c.At).toNat) ⟨Z.trans l3,H,⟨A.2.1 J,(jU o.Key 0 [] u0).1⟩,(jU o.Kind 0 [] u0).1,by show(tV (af.mk o.Key 0 [] [] [] [] []):Int)+tV (af.mk o.Kind 0 [] [] [] [] [])<=2+8*(M.2.c.At - a.2.2.c.At);omega⟩ (by show(M.2.c.End - M.2.c.At).toNat < (r.c.End - r.c.At).toNat+1;omega) fun x hx=> ?_;obtain⟨u,f,O,U,x5⟩:=hx;have xE:=f.2.2.1;have xA:=f.2.2.2.2.2.2;have xD:=f.2.2.2.1;rw[C]at xE;rw[D]at xA;rw[eD]at xD;refine aC fun v7 Q=>bK (fun hlt=>aj f.1 (aC fun v8 Nu=>bQ (fun _=>v8.2.2.2=0) ?_ fun y3 E=> ?_)) (fun G=> ?_)
 ·refine dW (fun c=>ah (gX c)) fun e0=> ?_;repeat' first
   | exact ah e0
   | exact ah (gX (by show ¬(18:Int)=0;decide))
   | exact ah (gX (by show ¬(9:Int)=0;decide))
   | refine dW (fun _=> ?_) (fun _=> ?_)
   | refine dZ (fun _=> ?_) (fun _=> ?_)
   | refine dX (fun _=> ?_) (fun _=> ?_)
 ·rw[Nu]at E⊢;obtain⟨n,u2⟩:=zN f.1 E;generalize sU x.2.2.1.c=b at*;have uD:=n.2.2.2.1;have uE:=n.2.2.1;have uA:=n.2.2.2.2.2.2;have V:H_ (af.mk 10 0 [] [] [] [] []) (ae.mk x.2.2.1.p b.2.2.1):=⟨n.1,by show dR x.2.2.1.p;rw[u];exact l.2.1,(jU 10 0 [] u0).1,by rw[Uf];show((1:Nat):Int)+8*(b.2.2.1.End - b.2.2.1.At)<=1048576;have:=kZ v;omega⟩;have B:∀(w:af×Int×ae) (p t:af),w.2.2.p=x.2.2.1.p->Dc 0 b.2.2.1 w.2.2.c->(iy p.Kind=true/\kV p)->kV t->(tV p:Int)+tV t<=2+8*(w.2.2.c.At - a.2.2.c.At)->(fun x=>x.2.2.1.p=r.p/\Dc 0 (vg a.2.2.c a.1) x.2.2.1.c/\(iy x.2.2.2.Key.Kind=true/\kV x.2.2.2.Key)/\kV x.2.2.2.Val/\(tV x.2.2.2.Key:Int)+tV x.2.2.2.Val<=2+8*(x.2.2.1.c.At - a.2.2.c.At)) ((true,true,w.2.2,Pair.mk p t):Bool×Bool×ae×Pair)/\(w.2.2.c.End - w.2.2.c.At).toNat < (x.2.2.1.c.End - x.2.2.1.c.At).toNat:=fun w p t a1 a2 a3 a4 a5=>by
   have z:Dc 1 x.2.2.1.c w.2.2.c:=jY (jQ n a2) qp;have aE:=z.2.2.1;have aA:=z.2.2.2.2.2.2;have aL:=z.1.1.2.1;exact⟨⟨a1.trans u,jY (jQ f z) qp,a3,a4,a5⟩,by omega⟩
  refine dZ (fun hk=> ?_) (fun hk=> ?_)
  ·have s:jZ d (Op.mk 0 [] [] 0 0 o.Key (-1) 0) b.2.1 (ae.mk x.2.2.1.p b.2.2.1):=⟨V,fun j=>(by
    have i:o.Key=10:=j;have:=A.2.1 J;rw[i]at this;exact absurd this qp),by show 5*b.2.2.1.Depth+2<=(d:Int);omega⟩
   have k:=S.2.2.2.2.2 _ _ _ s;refine aj s (dW (fun c=>ah (gX c)) fun K=>ah ?_);obtain⟨f1,f2,f3,f4,f5⟩:=k K;generalize (mf d).2.2.2.2.2 (Op.mk 0 [] [] 0 0 o.Key (-1) 0) b.2.1 (ae.mk x.2.2.1.p b.2.2.1)=w at*;have f4:(tV w.1:Int)<=8*(w.2.2.c.At - b.2.2.1.At):=f4;have f7:b.2.2.1.At+0<=w.2.2.c.At:=f2.2.2.2.2.2.2;refine B w w.1 x.2.2.2.Val f1 f2 ⟨f5 fun i=> ?_,f3⟩ U (by have:=kZ x.2.2.2.Key;omega);have i:o.Key=10:=i;have:=A.2.1 J;rw[i]at this;exact absurd this qp
  ·have s:jZ d o b.2.1 (ae.mk x.2.2.1.p b.2.2.1):=⟨V,fun j=>by show 0<=o.Target/\o.Target < x.2.2.1.p.bg.length;rw[u];exact A.1 j,by show 5*b.2.2.1.Depth+2<=(d:Int);omega⟩;have k:=S.2.2.2.2.2 _ _ _ s;refine aj s (dW (fun c=>ah (gX c)) fun K=>ah ?_);obtain⟨f1,f2,f3,f4,f5⟩:=k K;generalize (mf d).2.2.2.2.2 o b.2.1 (ae.mk x.2.2.1.p b.2.2.1)=w at*;have f4:(tV w.1:Int)<=8*(w.2.2.c.At - b.2.2.1.At):=f4;have f7:b.2.2.1.At+0<=w.2.2.c.At:=f2.2.2.2.2.2.2;exact B w x.2.2.2.Key w.1 f1 f2 O f3 (by have:=kZ x.2.2.2.Val;omega)
 ·rw[Q]at G;have hend:=at_end f.1 G;have X:=Vb l1.1 I N f;have hpl:=Kw (fM v o.Num).1.Pairs;have ht:=iV (fM v o.Num).1;have F:nV ((fM v o.Num).1.Pairs++[x.2.2.2]):=⟨by simp only[qO,AB,yz];omega,fun y hy=>(u_.1 hy).elim (hf.2.2 y) fun e=>by rw[BH.1 e];exact O.1⟩;obtain⟨q1,q2⟩:=anr (E5 l.2.2.1) F O U;have ep:Pair.mk x.2.2.2.Key x.2.2.2.Val=x.2.2.2:=Pair.eta _;rw[Y,ep];refine dw <| aj oI (aC fun v9 aa=> ?_)
  rw[aa,Lc];refine aj ?_ (aC fun v10 Cb=> ?_)
  ·first
    | exact⟨by decide,dI au au⟩
    | exact⟨trivial,dI au au⟩
    | exact dI au au
  rw[Cb];refine aj F (aj L.2.1 (ah fun _=>⟨u,jY (jQ l1 X) au,GU L.2.1 l.2.2.1 q1,?_⟩));show(tV (wL g v o (af.mk 12 0 [] [] (nX ((fM v o.Num).1.Pairs++[x.2.2.2])) [] [])):Int)+0<=tV v+8*(x.2.2.1.c.End - r.c.At)
  have t2:=GI (g:=g) (v:=v) (o:=o) (x:=af.mk 12 0 [] [] (nX ((fM v o.Num).1.Pairs++[x.2.2.2])) [] []) L.2.1;cases m:(fM v o.Num).2 with
  | true=>rw[m]at t2;simp only[AC]at t2;omega
  | false=>have:=t4.2 m;rw[m]at t2;simp only[qH]at t2;omega
abbrev QH (a:Nat):=asN ((mf a).1) (iJ a) ((mf a).2.1) (jD a) ((mf a).2.2.1) (gG a) ((mf a).2.2.2.1) (iK a) ((mf a).2.2.2.2.1) (jI a) ((mf a).2.2.2.2.2) (jZ a)
theorem Xl (a:Nat)(k:Hr a)(o:Op)(w:Int)(r:ae)(h:jZ (a+1) o w r):jG (QH a o w r) (fun x=>x.2.1=0->x.2.2.p=r.p/\Dc 0 r.c x.2.2.c/\kV x.1/\(tV x.1:Int)<=8*(x.2.2.c.At - r.c.At)/\(¬o.Kind=10->iy x.1.Kind=true)):=
 by
 obtain⟨b,s,D⟩:=h;unfold QH asN;simp only[af.dO];refine dW (fun _=>ah (fun e=>absurd e qcs)) fun _=>dZ (fun c=> ?_) (fun c=>aj b.1 (aC fun B j=>dW (fun i=>ah (fun e=>absurd e i)) fun f=> ?_))
 ·have g:gG a o.Target (af.mk 10 0 [] [] [] [] []) 0 r:=⟨b,s c,by omega⟩;refine aj g (ah fun e=> ?_);obtain⟨f1,f2,f3,f4⟩:=k.2.2.1 _ _ _ _ g e;rw[Uf]at f4;exact⟨f1,f2,f3,by dsimp only;omega,fun p=>absurd c p⟩
 ·rw[j]at f⊢;obtain⟨q,l,y,m,_⟩:=Gf b.1 f;have u:=Ou (wire:=w) b.1;generalize iC w r=z at*;refine aj m (aC fun A d=>ah fun e=> ?_);rw[d]at e⊢;obtain⟨C,n,t,v⟩:=Uo u e;exact⟨l,jY q qp,n,by dsimp only;omega,fun _=>by dsimp only;rw[t];exact v⟩
theorem pR:∀a,Hr a
 | 0=>⟨fun prog v r h=>False.elim qb0,
  fun g v o w r h=>False.elim qb0,
  fun prog c b r h=>False.elim qb0,
  fun g v o r h=>False.elim qb0,
  fun g v o r h=>False.elim (by have k:=h.1.1.2.1.1;have e:=h.2.2.2;omega),
  fun o w r h=>False.elim qb0⟩
 | a+1=>⟨fun prog v r h=>(NV a (pR a) prog v r h).2,
  fun g v o w r h=>(Uu a (pR a) g v o w r h).2,
  fun prog c b r h=>(O4 a (pR a) prog c b r h).2,
  fun g v o r h=>(Og a (pR a) g v o r h).2,
  fun g v o r h=>(TV a (pR a) g v o r h).2,
  fun o w r h=>(Xl a (pR a) o w r h).2⟩
theorem afS (a:Nat)(prog:Int)(v:af)(r:ae)(h:iJ (a+1) prog v r):Is (E8 a prog v r):=(NV a (pR a) prog v r h).1
theorem amB (a:Nat)(g:bD)(v:af)(o:Op)(w:Int)(r:ae)(h:jD (a+1) g v o w r):Is (IE a g v o w r):=(Uu a (pR a) g v o w r h).1
theorem ah9 (c:Nat)(prog:Int)(b:af)(a:Int)(r:ae)(h:gG (c+1) prog b a r):Is (EY c prog b a r):=(O4 c (pR c) prog b a r h).1
theorem ahN (a:Nat)(g:bD)(v:af)(o:Op)(r:ae)(h:iK (a+1) g v o r):Is (E_ a g v o r):=(Og a (pR a) g v o r h).1
theorem an0 (a:Nat)(g:bD)(v:af)(o:Op)(r:ae)(h:jI (a+1) g v o r):Is (IP a g v o r):=(TV a (pR a) g v o r h).1
theorem ati (a:Nat)(o:Op)(w:Int)(r:ae)(h:jZ (a+1) o w r):Is (QH a o w r):=(Xl a (pR a) o w r h).1
theorem WY (prog:Int)(v:af)(r:ae)(h:H_ v r/\(0<=prog/\prog < r.p.bg.length)):(fun x=>FT 0 0 v r x/\(x.2.1=0->x.2.2.c.At=x.2.2.c.End)) (SL prog v r):=(pR ((5*r.c.Depth+5).toNat)).1 prog v r (⟨h.1,h.2,by have k:=h.1.1.2.1.1;omega⟩)
theorem aAk:∀b,dJ Z.P Z.S 167 (mi (jF (ak (iE 0) (ak (bz cI) (a1 (aI aK)))) (b1 (aS a_))) (shr [.slot 0 true (nn 7), s0 1, .cells 0 (nn 8)] (ay aK (ay cI (l1 a_)))) 2 [] (fun a=>some (iJ b (a.1.2.1) (a.1.2.2) (a.2))) (fun a=>(mf b).1 (a.1.2.1) (a.1.2.2) (a.2)))/\dJ Z.P Z.S 230 (mi (jF (ak (iE 0) (ak (aI iq) (ak (aI aK) (ak (aI iU) (a1 (bz cI)))))) (b1 (aS a_))) (shr [.slot 0 true (nn 7), s0 1, .cells 0 (nn 8)] (ay aK (ay cI (l1 a_)))) 2 [] (fun a=>some (jD b (a.1.2.1) (a.1.2.2.1) (a.1.2.2.2.1) (a.1.2.2.2.2) (a.2))) (fun a=>(mf b).2.1 (a.1.2.1) (a.1.2.2.1) (a.1.2.2.2.1) (a.1.2.2.2.2) (a.2)))/\dJ Z.P Z.S 388 (mi (jF (ak (iE 0) (ak (bz cI) (ak (aI aK) (a1 (bz cI))))) (b1 (aS a_))) (shr [.slot 0 true (nn 7), s0 1, .cells 0 (nn 8)] (ay aK (ay cI (l1 a_)))) 2 [] (fun a=>some (gG b (a.1.2.1) (a.1.2.2.1) (a.1.2.2.2) (a.2))) (fun a=>(mf b).2.2.1 (a.1.2.1) (a.1.2.2.1) (a.1.2.2.2) (a.2)))/\dJ Z.P Z.S 298 (mi (jF (ak (iE 0) (ak (aI iq) (ak (aI aK) (a1 (aI iU))))) (b1 (aS a_))) (shr [.slot 0 true (nn 7), s0 1, .cells 0 (nn 8)] (ay aK (ay cI (l1 a_)))) 2 [] (fun a=>some (iK b (a.1.2.1) (a.1.2.2.1) (a.1.2.2.2) (a.2))) (fun a=>(mf b).2.2.2.1 (a.1.2.1) (a.1.2.2.1) (a.1.2.2.2) (a.2)))/\dJ Z.P Z.S 294 (mi (jF (ak (iE 0) (ak (aI iq) (ak (aI aK) (a1 (aI iU))))) (b1 (aS a_))) (shr [.slot 0 true (nn 7), s0 1, .cells 0 (nn 8)] (ay aK (ay cI (l1 a_)))) 2 [] (fun a=>some (jI b (a.1.2.1) (a.1.2.2.1) (a.1.2.2.2) (a.2))) (fun a=>(mf b).2.2.2.2.1 (a.1.2.1) (a.1.2.2.1) (a.1.2.2.2) (a.2)))/\dJ Z.P Z.S 383 (mi (jF (ak (iE 0) (ak (aI iU) (a1 (bz cI)))) (b1 (aS a_))) (shr [.slot 0 true (nn 7), s0 1, .cells 0 (nn 8)] (ay aK (ay cI (l1 a_)))) 2 [] (fun a=>some (jZ b (a.1.2.1) (a.1.2.2) (a.2))) (fun a=>(mf b).2.2.2.2.2 (a.1.2.1) (a.1.2.2) (a.2)))
 | 0=>⟨gp func167 eF (fun a h=>by have k:=h.1.1.2.1.1;have e:=h.2.2;omega),
  gp func230 eF (fun a h=>by have k:=h.1.1.2.1.1;have e:=h.2.2;omega),
  gp func388 eF (fun a h=>by have k:=h.1.1.2.1.1;have e:=h.2.2;omega),
  gp func298 eF (fun a h=>by have k:=h.1.1.2.1.1;have e:=h.2.2;omega),
  gp func294 eF (fun a h=>by have k:=h.1.1.2.1.1;have e:=h.2.2.2;omega),
  gp func383 eF (fun a h=>by have k:=h.1.1.2.1.1;have e:=h.2.2;omega)⟩
 | b+1=>by
  obtain⟨l,j,d,f,i,g⟩:=aAk b;exact⟨zD [xJ,ahn,axX,adH,⟨167,_,l⟩,⟨230,_,j⟩,⟨388,_,d⟩,⟨298,_,f⟩,⟨294,_,i⟩,⟨383,_,g⟩] [jS 2 (bJ (fun c=>[.cells (pid (c 0)) (nn 8), .cells (pid (c 5)) (nn 7)]) (ay a_ (l1 aK))),jS 8 (bJ (fun c=>[s0 49, .cells (pid (c 0)) (nn 8), .cells (pid (c 5)) (nn 7)]) (ay cI (ay a_ (l1 aK)))),jS 100016 (bJ (fun c=>[.cells (pid (c 0)) (nn 8), .cells (pid (c 5)) (nn 7)]) (ay a_ (l1 aK)))] func167 ntmps167 (fun a=>E8 b a.1.2.1 a.1.2.2 a.2) (fun a h=>⟨afS b a.1.2.1 a.1.2.2 a.2 h,rfl⟩) (nT (n:=93) rfl),
   zD [vU,ay4,KJ,avb,⟨167,_,l⟩,⟨230,_,j⟩,⟨388,_,d⟩,⟨298,_,f⟩,⟨294,_,i⟩,⟨383,_,g⟩] [] func230 ntmps230 (fun a=>IE b a.1.2.1 a.1.2.2.1 a.1.2.2.2.1 a.1.2.2.2.2 a.2) (fun a h=>⟨amB b a.1.2.1 a.1.2.2.1 a.1.2.2.2.1 a.1.2.2.2.2 a.2 h,rfl⟩) (nT (n:=64) rfl),
   zD [DJ,Fg,ap7,ao8,⟨167,_,l⟩,⟨230,_,j⟩,⟨388,_,d⟩,⟨298,_,f⟩,⟨294,_,i⟩,⟨383,_,g⟩] [] func388 ntmps388 (fun a=>EY b a.1.2.1 a.1.2.2.1 a.1.2.2.2 a.2) (fun a h=>⟨ah9 b a.1.2.1 a.1.2.2.1 a.1.2.2.2 a.2 h,rfl⟩) (nT (n:=68) rfl),
   zD [JW,Zn,Yf,⟨167,_,l⟩,⟨230,_,j⟩,⟨388,_,d⟩,⟨298,_,f⟩,⟨294,_,i⟩,⟨383,_,g⟩] [jS 100007 (bJ (fun c=>[s0 13]) (l1 cI)),jS 100013 (bJ (fun c=>[.cells (pid (c 10)) (nn 7)]) (l1 aK))] func298 ntmps298 (fun a=>E_ b a.1.2.1 a.1.2.2.1 a.1.2.2.2 a.2) (fun a h=>⟨ahN b a.1.2.1 a.1.2.2.1 a.1.2.2.2 a.2 h,rfl⟩) (nT (n:=71) rfl),
   zD [DJ,JW,xJ,ahn,UE,Fg,akN,YH,Zn,⟨167,_,l⟩,⟨230,_,j⟩,⟨388,_,d⟩,⟨298,_,f⟩,⟨294,_,i⟩,⟨383,_,g⟩] [jS 14 (bJ (fun c=>[s0 18, s0 19, .cells (pid (c 0)) (nn 8), .cells (pid (c 17)) (nn 14)]) (ay aG (ay aG (ay a_ (l1 qF))))),jS 100009 (bJ (fun c=>[s0 15]) (l1 cI)),jS 100022 (bJ (fun c=>[]) l0)] func294 ntmps294 (fun a=>IP b a.1.2.1 a.1.2.2.1 a.1.2.2.2 a.2) (fun a h=>⟨an0 b a.1.2.1 a.1.2.2.1 a.1.2.2.2 a.2 h,rfl⟩) (nT (n:=153) rfl),
   zD [KJ,OL,XI,⟨167,_,l⟩,⟨230,_,j⟩,⟨388,_,d⟩,⟨298,_,f⟩,⟨294,_,i⟩,⟨383,_,g⟩] [] func383 ntmps383 (fun a=>QH b a.1.2.1 a.1.2.2 a.2) (fun a h=>⟨ati b a.1.2.1 a.1.2.2 a.2 h,rfl⟩) (nT (n:=44) rfl)⟩
def anA:aY Z:=⟨167,mi (jF (ak (iE 0) (ak (bz cI) (a1 (aI aK)))) (b1 (aS a_))) (shr [.slot 0 true (nn 7), s0 1, .cells 0 (nn 8)] (ay aK (ay cI (l1 a_)))) 2 [] (fun a=>some (H_ (a.1.2.2) (a.2)/\(0<=(a.1.2.1)/\(a.1.2.1) < (a.2).p.bg.length))) (fun a=>SL (a.1.2.1) (a.1.2.2) (a.2)),jH (fun n=>((aAk n).1)) _ _ (fun a h=>⟨(5*(a.2).c.Depth+5).toNat,⟨h.1,h.2,by have k:=h.1.1.2.1.1;omega⟩,rfl⟩)⟩
def asW (a:Str)(l:ql):Pg (aN×Int):=.br (decide (l.Bytes < 0)) (.ret (aN.mk [] 0 0 0 0 0,1)) (.br (decide (l.Depth < 0)) (.ret (aN.mk [] 0 0 0 0 0,1)) (.br (decide (l.Nodes < 0)) (.ret (aN.mk [] 0 0 0 0 0,1)) (.br (decide (l.Text < 0)) (.ret (aN.mk [] 0 0 0 0 0,1)) (.as (List.length a<=9223372036854775807) (.br (decide (l.Bytes < (↑(List.length a):Int))) (.ret (aN.mk [] 0 0 0 0 0,3)) (.as (List.length a<=9223372036854775807) (.ret (aN.mk a 0 (↑(List.length a):Int) l.Depth l.Nodes l.Text,0))))))))
def GN (a:Str)(l:ql):=(asW a l).val
def ayx:aY Z:=E0 [] [] (ak (bz cStr) (a1 (aI zL))) (shr [.slot 0 true (nn 6), s0 1] (ay dQ (l1 cI))) [] func165 2 (u2 asW)
def apP:Pg ql:=.ret (ql.mk 65536 16 4096 4096)
def pK:ql:=(apP).val
def z_:aY Z:=E0 [] [] a0 (shr [.slot 0 true (nn 4)] (l1 zL)) [] func62 1 fun a=>apP
def okL (l:ql):Prop:=l.Bytes<=65536/\l.Depth<=1048576/\l.Nodes<=1099511627776/\l.Text<=1099511627776
theorem JD:okL pK:=by
 show okL (ql.mk 65536 16 4096 4096)
 exact⟨by decide,by decide,by decide,by decide⟩
theorem au7 {a:Str}{l:ql}(i:okL l)(b:(GN a l).2=0):mM (GN a l).1/\(GN a l).1.At=0/\(GN a l).1.End=a.length/\a.length<=65536:=by
 obtain⟨l1,k,j,h⟩:=i;unfold GN asW at b⊢;simp only[kK,cO,bu]at b⊢;by_cases g:l.Bytes < 0
 ·rw[wO g]at b;cases b
 rw[sQ g]at b⊢;by_cases c:l.Depth < 0
 ·rw[wO c]at b;cases b
 rw[sQ c]at b⊢;by_cases d:l.Nodes < 0
 ·rw[wO d]at b;cases b
 rw[sQ d]at b⊢;by_cases f:l.Text < 0
 ·rw[wO f]at b;cases b
 rw[sQ f]at b⊢;by_cases e:l.Bytes < (a.length:Int)
 ·rw[wO e]at b;cases b
 rw[sQ e];exact⟨⟨⟨by show(0:Int)<=0;omega,by show(0:Int)<=a.length;omega,by show(a.length:Int)<=a.length;omega,by show a.length<=1048576;omega⟩,⟨by show 0<=l.Depth;omega,k⟩,⟨by show 0<=l.Nodes;omega,j⟩,by show 0<=l.Text;omega,h⟩,rfl,rfl,by omega⟩
theorem UU {p:df}{name:Str}(h:(yY p name).2=true):0<=(yY p name).1/\(yY p name).1 < p.bg.length:=by
 have a:=(oM (fun(x:bD)=>abl x name) p.bg).1;unfold yY ary at h⊢;simp only[dV,bu]at h⊢;have h:=Fa h;omega
def ai2 (p:df)(g:Str)(b:af)(f:Str)(l:ql):Pg (af×Int):=.lt (yY p g) fun d=> .br (!d.2) (.ret (af.mk 0 0 [] [] [] [] [],10)) (.br (b.Kind !=10) (.ret (af.mk 0 0 [] [] [] [] [],12)) (.lt (GN f l) fun a=> .br (a.2 !=0) (.ret (af.mk 0 0 [] [] [] [] [],a.2)) (.br (decide (a.1.Depth < 1)) (.ret (af.mk 0 0 [] [] [] [] [],17)) (.lt (mF 1 (ae.mk p (aN.mk a.1.Data a.1.At a.1.End (dA .i64 (a.1.Depth - 1)) a.1.Nodes a.1.Text))) fun c=> .br (c.1 !=0) (.ret (af.mk 0 0 [] [] [] [] [],c.1)) (.ob (H_ b.re c.2/\0<=d.1/\d.1 < (↑c.2.p.bg.length:Int)) (.lt (SL d.1 b.re c.2) fun e=> .br (e.2.1 !=0) (.ret (af.mk 0 0 [] [] [] [] [],e.2.1)) (.ob (gV e.1.re) (.ret ((TE p d.1 e.1.re).re,0)))))))))
def aCK (p:df)(b:Str)(c:af)(a:Str)(l:ql):=(ai2 p b c a l).val
theorem XF (p:df)(name:Str)(a:af)(c:Str)(l:ql)(h:dR p/\okL l/\kV a/\tV a<=1024):jG (ai2 p name a c l) (fun x=>x.2=0->kV x.1/\tV x.1<=tV a+8*c.length/\(yY p name).2=true/\c.length<=65536):=
 by
 obtain⟨N,G,B,S⟩:=h;unfold ai2;simp only[af.dO];have i:∀{e:Int} (u:¬e=0),(fun x:af×Int=>x.2=0->kV x.1/\tV x.1<=tV a+8*c.length/\(yY p name).2=true/\c.length<=65536) (af.mk 0 0 [] [] [] [] [],e):=fun u Q=>absurd Q u
 refine aC fun g n=>dX (fun _=>ah (i qp)) fun P=>dW (fun _=>ah (i qp)) fun Y=>aC fun V j=>dW (fun d=>ah (i d)) fun D=>bK (fun _=>ah (i qp)) fun O=>aC fun f o=>dW (fun d=>ah (i d)) fun v=> ?_;have C:g.2=true:=by simpa using P
 have y:=UU (p:=p) (name:=name) (by rw[<-n];exact C);rw[<-n]at y;rw[j]at D O;obtain⟨K,U,T,J⟩:=au7 G D;rw[o,j]at v;rw[j]at o;generalize GN c l=b at*;have R:mM (aN.mk b.1.Data b.1.At b.1.End (dA .i64 (b.1.Depth - 1)) b.1.Nodes b.1.Text):=by
  obtain⟨M,⟨q2,q3⟩,L⟩:=K;rw[eQ (k:= .i64) ve];exact⟨M,⟨by show 0<=b.1.Depth - 1;omega,by show b.1.Depth - 1<=1048576;omega⟩,L⟩
 obtain⟨m,q,t⟩:=v_ (r:=ae.mk p (aN.mk b.1.Data b.1.At b.1.End (dA .i64 (b.1.Depth - 1)) b.1.Nodes b.1.Text)) R v;rw[<-o]at m q t;have sE:f.2.c.End=b.1.End:=q.2.2.1;have t:f.2.c.At=b.1.At:=t;have m:f.2.p=p:=m;have z:H_ a f.2/\0<=g.1/\g.1 < (f.2.p.bg.length:Int):=⟨⟨q.1,by rw[m];exact N,B,by omega⟩,by rw[m];exact y⟩;refine aj z (aC fun s A=>dW (fun d=>ah (i d)) fun I=> ?_);obtain⟨w,H⟩:=WY g.1 a f.2 z;rw[<-A]at w H;obtain⟨f1,f2,f3,f4⟩:=w I;have Z:=f2.2.2.1;have W:=f2.1.1.2.1;have E:gV s.1:=⟨f3,by omega⟩;obtain⟨F,X⟩:=OV p g.1 s.1 E;exact aj E (ah fun _=>⟨F,by show tV (TE p g.1 s.1)<=tV a+8*c.length;omega,by rw[<-n];exact C,J⟩)
def azy:aY Z:=E1 [ZO,ayx,DJ,anA,aj_] [] (ak (aI dN) (ak (bz cStr) (ak (aI aK) (ak (bz cStr) (a1 (aI zL)))))) (shr [.slot 0 true (nn 7), s0 1] (ay aK (l1 cI))) [] func108 2 (fun a=>ai2 a.1 a.2.1 a.2.2.1 a.2.2.2.1 a.2.2.2.2) (fun a=>dR a.1/\okL a.2.2.2.2/\kV a.2.2.1/\tV a.2.2.1<=1024) fun a h=>(XF a.1 a.2.1 a.2.2.1 a.2.2.2.1 a.2.2.2.2 h).1
def LZ (e:df->Int->af->Bool)(tH:df->Int->af->Prop)(p:df)(prog:Int)(v:af):Pg Bool:=.ix prog p.bg.length (.as ((p.bg.getD prog.toNat bV).Ops.length<=9223372036854775807) (.each false um (p.bg.getD prog.toNat bV).Ops Ak (fun h b (j:Unit)=> .ix h (p.bg.getD prog.toNat bV).Ops.length (.lt (fM v.re b.Num) fun c=> .br (!c.2) (.br (b.Card==1) (.ret (.inr false)) (rl ())) (.br (b.Kind !=10) (rl ()) (.ob ((match c.1 with | af.mk i l n m a q o=>a).length<= 1048576) (.lt (ayX c.1.re) fun d=> aL d (.each false um d fJ (fun f g (k:Unit)=> .ix f d.length (.ob (tH p b.Target g.re) (.br (!e p b.Target g.re) (.ret (.inr (.inr false))) (rl ())))) (fun f (k:Unit)=> rl ()) ())))))) (fun h (j:Unit)=> .ret true) ()))
def tH (a:Nat)(p:df)(prog:Int)(v:af):Prop:=dR p/\(0<=prog/\prog < p.bg.length)/\gV v/\tV v<=a
def tcV:Nat->(df->Int->af->Bool)
 | 0=>(fun _ _ _=>default)
 | a+1=>(fun p prog v=>(LZ ((tcV a)) (tH a) p prog v).val)
def UT (p:df)(prog:Int)(v:af):Bool:=(tcV (tV v)) p prog v
abbrev DL (a:Nat):=LZ ((tcV a)) (tH a)
theorem aaI (n:Nat)(p:df)(prog:Int)(v:af)(h:tH (n+1) p prog v):Is (DL n p prog v):=
 by
 obtain⟨t,L,I,N⟩:=h;have D:=t _ (getD_mem (d:=bV) (l:=p.bg) (i:=prog.toNat) au);have K:(fM v 0).1.Pairs.length=(fM v 0).1.Pairs.length:=rfl;unfold DL LZ;simp only[af.dO];refine bW au au (eH fun _=>fU (.inr au) (fun E C j _=>bW au au (dC fun b e=>aT (fun _=>dM iR iR) (fun H=>eX iR (fun F=> ?_)))) (fun C _=>aO));have w:b.2=true:=by simpa using H
 have A:=D.2 _ (getD_mem (d:=Ak) j);have c:gV b.1/\tV b.1 < tV v:=by
  rcases Jl v ((p.bg.getD prog.toNat bV).Ops.getD E Ak).Num with⟨f,s,y,M,x⟩ | ⟨f,_⟩
  ·rw[<-e]at x;rw[<-x];exact Qz I y
  ·rw[<-e]at f;rw[f]at w;cases w
 have k:=(qg c.1).2.2.2.1;refine aW k (dC fun m r=>eH fun _=>fU (.inr au) (fun u J o _=>bW au au (aW ?_ (aT iR iR))) (fun J _=>aO));have a:=(Uh b.1 k).2 _ (by have:=getD_mem (d:=fJ) o;rw[r]at this;exact this);have z:gV (m.getD u fJ)/\tV (m.getD u fJ) < tV v:=by
  rw[r];rcases a with a | ⟨q,G,a⟩ | a
  ·obtain⟨g,B⟩:=Jw c.1 a;exact⟨g,by omega⟩
  ·obtain⟨g,B,_⟩:=JY c.1 G;rw[a];exact⟨g,by omega⟩
  ·rw[a];exact c
 exact⟨t,A.1 F,z.1,by omega⟩
theorem aAN:∀b,dJ Z.P Z.S 110 (mi (args (ak (aI dN) (ak (bz cI) (a1 (aI aK))))) (R1 aG) 1 [] (fun a=>some (tH b (a.1) (a.2.1) (a.2.2))) (fun a=>(tcV b) (a.1) (a.2.1) (a.2.2)))
 | 0=>gp func110 eF (fun a h=>by have k:=h.2.2.2;have:=kZ (a.2.2);omega)
 | b+1=>by
  have d:=aAN b;exact zD [JW,as7,⟨110,_,d⟩] [jS 2 (bJ (fun c=>[s0 20]) (l1 cI)),jS 10 (bJ (fun c=>[s0 42]) (l1 cI))] func110 ntmps110 (fun a=>DL b a.1 a.2.1 a.2.2) (fun a h=>⟨aaI b a.1 a.2.1 a.2.2 h,rfl⟩) (jr (n:=54) rfl)
def acY:aY Z:=⟨110,mi (args (ak (aI dN) (ak (bz cI) (a1 (aI aK))))) (R1 aG) 1 [] (fun a=>some (dR (a.1)/\(0<=(a.2.1)/\(a.2.1) < (a.1).bg.length)/\gV (a.2.2))) (fun a=>UT (a.1) (a.2.1) (a.2.2)),jH (fun n=>((aAN n))) _ _ (fun a h=>⟨tV (a.2.2),⟨h.1,h.2.1,h.2.2,oC _⟩,rfl⟩)⟩
def QR (p:df)(b:Str)(c:Str)(l:ql):Pg (af×Int):=.ob (dR p/\okL l/\kV (af.mk 10 0 [] [] [] [] [])/\tV (af.mk 10 0 [] [] [] [] [])<=1024) (.lt (aCK p b (af.mk 10 0 [] [] [] [] []) c l) fun a=> .br (a.2 !=0) (.ret (af.mk 0 0 [] [] [] [] [],a.2)) (.lt (yY p b) fun d=> .ob (dR p/\(0<=d.1/\d.1 < (↑p.bg.length:Int))/\gV a.1.re) (.br (!UT p d.1 a.1.re) (.ret (af.mk 0 0 [] [] [] [] [],14)) (.ret (a.1.re,0)))))
def wS (p:df)(a:Str)(b:Str)(l:ql):=(QR p a b l).val
theorem NK (p:df)(b:Str)(a:Str)(l:ql)(h:dR p/\okL l):jG (QR p b a l) (fun x=>x.2=0->kV x.1/\tV x.1<=1+8*a.length):=
 by
 obtain⟨i,q⟩:=h;have j:dR p/\okL l/\kV (af.mk 10 0 [] [] [] [] [])/\tV (af.mk 10 0 [] [] [] [] [])<=1024:=⟨i,q,(jU 10 0 [] u0).1,by rw[Uf];decide⟩;unfold QR;simp only[af.dO];refine aj j (aC fun c o=>dW (fun n=>ah fun e=>absurd e n) fun s=>aC fun t g=> ?_);have k:=(XF p b (af.mk 10 0 [] [] [] [] []) a l j).2;have k:c.2=0->kV c.1/\tV c.1<=tV (af.mk 10 0 [] [] [] [] [])+8*a.length/\(yY p b).2=true/\a.length<=65536:=by rw[o];exact k
 obtain⟨f,d,r,u⟩:=k s;have m:=UU r;rw[<-g]at m;rw[Uf]at d;refine aj ⟨i,m,f,by omega⟩ (dX (fun _=>ah fun e=>absurd e qp) fun _=>ah fun _=>⟨f,d⟩)
def vY:aY Z:=E1 [azy,ZO,acY] [] (ak (aI dN) (ak (bz cStr) (ak (bz cStr) (a1 (aI zL))))) (shr [.slot 0 true (nn 7), s0 1] (ay aK (l1 cI))) [] func61 2 (u4 QR) (fun a=>dR a.1/\okL a.2.2.2) fun a h=>(NK a.1 a.2.1 a.2.2.1 a.2.2.2 h).1
def VP {R:Type}(t:Pg R)(Q:R->Prop):Prop:=Q t.val
section
variable {R A X Y:Type}{Q:R->Prop}
theorem di {r:R}(h:Q r):VP (.ret r) Q:=h
theorem jg {p:Prop}{k:Pg R}(h:VP k Q):VP (.ob p k) Q:=by unfold VP;rw[eG];exact h
theorem D9 {i:Int}{n:Nat}{k:Pg R}(h:VP k Q):VP (.ix i n k) Q:=by unfold VP;rw[lG];exact h
theorem CO {p:Prop}{k:Pg R}(h:VP k Q):VP (.as p k) Q:=by unfold VP;rw[kK];exact h
theorem zY {v:A}{k:A->Pg R}(h:∀x,x=v->VP (k x) Q):VP (.lt v k) Q:=by unfold VP;rw[dV];exact h v rfl
theorem jK {b:Bool}{t e:Pg R}(c:b=true->VP t Q)(a:b=false->VP e Q):VP (.br b t e) Q:=by
 unfold VP;rw[cO];cases b with
 | true=>exact c rfl
 | false=>exact a rfl
theorem lZ (d:X->Prop){a:Pg (X⊕R)}{k:X->Pg R}(b:VP a (Sum.elim d Q))(e:∀x,d x->VP (k x) Q):VP (.cut k a) Q:=by
 unfold VP at b⊢;rw[nY];cases c:a.val with
 | inl x=>rw[c]at b;exact e x b
 | inr r=>rw[c]at b;exact b
theorem yh {h:Bool}{s:Ix X Y}{l:List A}{d:A}{a:Int->A->Y->Pg (Y⊕R)}{c:Int->Y->Pg R}{y:Y}(I:Nat->Y->Prop)(g:I 0 y)(e:∀(k:Nat) (y:Y),k < l.length->I k y->VP (a ↑k (l.getD k d) y) (Sum.elim (I (k+1)) Q))(f:∀y,I l.length y->VP (c ↑l.length y) Q):VP (.each h s l d a c y) Q:=by
 unfold VP;rw[DN];refine EQ (d:=d) I l 0 y g (fun j y i b=> ?_) (fun y b=> ?_)
 ·rw[FQ]at b⊢;exact e j y i b
 ·rw[FQ]at b⊢;exact f y b
theorem aCs {s:Ix X Y}{a b:Int}{c:Int->Y->Pg (Y⊕R)}{e:Int->Y->Pg R}{y:Y}(I:Int->Y->Prop)(j:I a y)
  (h:∀(i:Int) (y:Y),a<=i->i < b->I i y->VP (c i y) (Sum.elim (I (i+1)) Q)) (k:∀i y,a<=i->b<=i->I i y->VP (e i y) Q):VP (.cnt s a b c e y) Q:=by
 unfold VP;rw[AX];refine Fq (fun i y=>a<=i/\I i y) b _ a y rfl ⟨H8 _,j⟩ (fun i y f d=> ?_) (fun i y f d=>k i y d.1 f d.2);have:=h i y d.1 f d.2;unfold VP at this;cases g:(c i y).val with
 | inr r=>rw[g]at this;exact this
 | inl l=>rw[g]at this;exact⟨by omega,this⟩
end
theorem jf {a:Bool}{e:Int}{x:ax}(h:(iP a e x).out=[]):a=true/\x.out=[]:=by
 cases a with
 | true=>exact⟨rfl,h⟩
 | false=>
  have h:x.out++[fK.mk x.zA x.num e]=[]:=h;exact absurd (Qcw List.length h) oI
theorem XO {l:List Note}{t:Int}{x:ax}(h:(o5 l t x).out=[]):x.out=[]:=(jf h).2
theorem am3 {l:List mG}{a b:Int}{x:ax}(h:(TY l a b x).out=[]):x.out=[]:=by
 have k:VP (spans l a b x) (fun y=>y.out=[]->x.out=[]):=by
  unfold spans;refine CO (yh (fun _ y=>y.out=[]->x.out=[]) id (fun k y e c=> ?_) (fun y c=>di c));repeat' first
   | exact di fun h=>c (jf (jf h).2).2
   | exact di fun h=>c (jf h).2
   | refine jg ?_
   | refine D9 ?_
   | refine CO ?_
   | (refine zY fun x d=> ?_;subst d)
   | refine jK (fun _=> ?_) (fun _=> ?_)
   | refine lZ (fun z=>z.out=[]->x.out=[]) ?_ (fun z c=> ?_)
 exact k h
def F9 (s:aH)(f:aP):Prop:=(1<=f.Num/\f.Num<=65535)/\(1<=f.Card/\f.Card<=5/\J_ f.Card f.Key=true)/\P_ s f=true
theorem alR {s:aH}{m:aX}{i:Int}{x:ax}(h:(aag s m i x).out=[]):x.out=[]/\F9 s (m.Fields.getD i.toNat aJ):=by
 have k:VP (field s m i x) (fun y=>y.out=[]->x.out=[]/\F9 s (m.Fields.getD i.toNat aJ)):=by
  unfold field;simp only[af.dO];generalize F:m.Fields.getD i.toNat aJ=f;have j:aP.mk f.Num f.Name f.Card f.Key f.dS f.Union f.dK f.Default f.Notes=f:=rfl;rw[j];refine D9 (lZ (fun z=>z.out=[]->x.out=[]) (di fun h=>h) fun H q=>lZ (fun z=>z.out=[]->x.out=[]/\1<=f.Num/\f.Num<=65535) ?_ fun E g=>lZ (fun z=>z.out=[]->x.out=[]/\1<=f.Num/\f.Num<=65535) ?_ fun D t=>lZ (fun z=>z.out=[]->x.out=[]/\1<=f.Num/\f.Num<=65535) ?_ fun L p=>lZ (fun z=>z.out=[]->x.out=[]/\1<=f.Num/\f.Num<=65535) ?_ fun I d=>lZ (fun z=>z.out=[]->x.out=[]/\1<=f.Num/\f.Num<=65535) ?_ fun J e=>
   lZ (fun z=>z.out=[]->x.out=[]/\(1<=f.Num/\f.Num<=65535)/\(1<=f.Card/\f.Card<=5/\J_ f.Card f.Key=true)) ?_ fun C c=>lZ (fun z=>z.out=[]->x.out=[]/\F9 s f) ?_ fun K o=>lZ (fun z=>z.out=[]->x.out=[]/\F9 s f) ?_ fun G r=> ?_)
  ·refine jK (fun a=>jg (di fun h=>⟨q (jf h).2,Fa a,Fa (jf h).1⟩)) (fun _=>jg (di fun h=>absurd (jf h).1 qp))
  ·refine jK (fun _=>jg (di fun h=>g (jf h).2)) (fun _=>zY fun v b=>D9 (jg (di fun h=>g (jf h).2)))
  ·exact jg (di fun h=>t (jf h).2)
  ·exact D9 (jg (di fun h=>p (jf h).2))
  ·refine jK (fun _=>jg (di fun h=>d (jf h).2)) (fun _=>jg (di fun h=>d (jf h).2))
  ·refine zY fun A b=>jK (fun a=>jK (fun l=>jg (di fun h=>⟨(e (jf h).2).1,(e (jf h).2).2,Fa a,Fa l,(jf h).1⟩)) (fun _=>jg (di fun h=> ?_))) (fun _=>jg (di fun h=> ?_))
   ·rw[b]at h;exact absurd (jf h).1 qp
   ·rw[b]at h;exact absurd (jf h).1 qp
  ·exact jg (di fun h=>⟨(c (jf h).2).1,(c (jf h).2).2.1,(c (jf h).2).2.2,(jf h).1⟩)
  ·exact jg (jg (di fun h=>o (jf h).2))
  ·refine jg (zY fun B u=>jg (zY fun w n=>di fun h=> ?_));subst u n;exact r (jf (XO h)).2
 exact k h
theorem aml {s:aH}{m:aX}{b:List (Str×Bool)}(h:yQ s m b=[]){i:Nat}(l:i < m.Fields.length):F9 s (m.Fields.getD i aJ):=by
 have k:VP (adF s m b) (fun r=>r=[]->∀i,i < m.Fields.length->F9 s (m.Fields.getD i aJ)):=by
  unfold adF;refine lZ (fun _=>True) (jg (jg (di trivial))) fun t _=>lZ (fun _=>True) (jK (fun _=>jg (CO (CO (di trivial)))) (fun _=>jg (di trivial))) fun q _=>
   lZ (fun y=>y.out=[]->∀i,i < m.Fields.length->F9 s (m.Fields.getD i aJ)) (CO (aCs (fun i y=>y.out=[]->∀j:Nat,(j:Int) < i->F9 s (m.Fields.getD j aJ)) (fun _ j c=>absurd c au) (fun i y p o a=>jg (di fun h=> ?_)) (fun i y p o a=>di fun h j c=>a h j au))) fun v g=>
   jg (CO (yh (fun _ y=>y.out=[]->∀i,i < m.Fields.length->F9 s (m.Fields.getD i aJ)) (fun h=>g (am3 h)) (fun k y w a=>D9 (jg (jg (di fun h=>a (jf h).2)))) (fun y a=>jg (jg (zY fun u f=>jg (di fun h=> ?_))))))
  ·obtain⟨n,d⟩:=alR h;intro j c;rcases Int.lt_or_eq_of_le (show(j:Int)<=i by omega)with e | e
   ·exact a n j e
   ·rw[<-e]at d;exact d
  ·subst f;exact a (XO (jf h).2)
 exact k h i l
theorem apo {s:aH}(h:ai9 s=[]){m:aX}(q:m∈s.Messages):yQ s m (uM s)=[]:=by
 have k:VP (auv s) (fun r=>r=[]->∀i,i < s.Messages.length->yQ s (s.Messages.getD i f_) (uM s)=[]):=by
  unfold auv;refine jg (zY fun u _=>lZ (fun _=>True) ?_ fun A _=>lZ (fun _=>True) (jg (di trivial)) fun B _=>jg (lZ (fun y=>y.out=[]->∀i,i < s.Messages.length->yQ s (s.Messages.getD i f_) (uM s)=[]) ?_ fun w f=>lZ (fun y=>y.out=[]->∀i,i < s.Messages.length->yQ s (s.Messages.getD i f_) (uM s)=[]) ?_ fun z l=> ?_))
  ·repeat' first
    | exact di trivial
    | refine jg ?_
    | refine zY fun _ _=> ?_
    | refine lZ (fun _=>True) ?_ fun _ _=> ?_
  ·refine CO (yh (fun n y=>y.out=[]->∀i,i < n->yQ s (s.Messages.getD i f_) (uM s)=[]) (fun _ i b=>absurd b au) (fun k y j a=>D9 (jg (zY fun t c=>jg (di fun h=> ?_)))) (fun y a=>di a));intro i b;obtain⟨o,p⟩:=Qdr.1 h;rcases Qd6 i k with g | x
   ·exact a o i g
   ·rw[show i=k by omega,<-c];exact p
  ·exact CO (yh (fun _ y=>y.out=[]->∀i,i < s.Messages.length->yQ s (s.Messages.getD i f_) (uM s)=[]) f (fun k y j a=>D9 (jg (zY fun v c=>jg (di fun h=>a (Qdr.1 h).1)))) (fun y a=>di a))
  ·exact CO (yh (fun _ y=>y.out=[]->∀i,i < s.Messages.length->yQ s (s.Messages.getD i f_) (uM s)=[]) l (fun k y j a=>D9 (jg (zY fun v c=>jg (di fun h=>a (Qdr.1 h).1)))) (fun y a=>di a))
 obtain⟨i,b,e⟩:=aiP (d:=f_) q;rw[<-e];exact k h i b
theorem an8 {s:aH}(h:ES s=true){m:aX}(j:m∈s.Messages){f:aP}(k:f∈m.Fields):F9 s f:=by
 have e:ai9 s=[]:=by
  unfold ES age at h;simp only[eG,dV,kK,bu]at h;cases c:ai9 s with
  | nil=>rfl
  | cons a l=>rw[c]at h;simp at h;omega
 obtain⟨i,b,g⟩:=aiP (d:=aJ) k;rw[<-g];exact aml (apo e j) b
def aGA (x:Note)(a:Str):Pg Bool:=.ret (x.Name==a)
def acJ (x:Note)(a:Str):=(aGA x a).val
def aoR:aY Z:=yu [] [] (ak (aI A8) (a1 (iE 0))) (b1 (aS cStr)) (R1 aG) [0] func160 1 (u11 aGA)
def aDz:aY Z:=Oc [aoR] kQ 160 [0] (b1 (aS cStr)) func159 Be fun x b=>acJ x b
def ag6 (l:List Note)(a:Str):Pg Int:=.ret (iI (fun(x:Note)=>acJ x a) l)
def aiG (l:List Note)(a:Str):=(ag6 l a).val
def aow:aY Z:=E0 [aDz,aoR] [] (ak (bz kQ) (a1 (bz cStr))) (R1 cI) [] func101 1 (u2 ag6)
def akg (l:List Note)(a:Str):Pg (af×Bool):=.lt (aiG l a) fun b=> .br (decide (b < 0)) (.ret (af.mk 0 0 [] [] [] [] [],false)) (.ix b l.length (.ret ((l.getD b.toNat Be).Val.re,true)))
def ahj (l:List Note)(a:Str):=(akg l a).val
theorem aoC (l:List Note)(a:Str):Is (akg l a):=
 dC fun c b=>cZ iR (fun _=>bW au (by rw[b];exact(oM (fun(x:Note)=>acJ x a) l).1) aO)
def ak4:aY Z:=E0 [aow] [] (ak (bz kQ) (a1 (bz cStr))) (shr [.slot 0 true (nn 7), s0 1] (ay aK (l1 aG))) [] func56 2 (u2 akg) fun a=>aoC a.1 a.2
def ahA (l:List Note):Pg (List UInt8):=.ret (ahj l [97,108,105,97,115]).1.Text
def IJ (l:List Note):=(ahA l).val
def aqm:aY Z:=E0 [ak4] [] (a1 (bz kQ)) (R1 cStr) [] func51 1 ahA
def arL (l:List mG):Pg (List mG):=.unk false (fun(b:Bool)=>b=true->l.length=0) (.ret []) (.ob (dE (0+l.length) 16) (.ret l))
theorem anb (l:List mG)(h:l.length<=1048576):Is (arL l):=
 wE (dI au au)
def asn:aY Z:=E2 [] [] (a1 (bz ou)) (shr [.slot 0 false [some 145]] (l1 ou)) [] func55 1 arL (fun a=>some (a.length<=1048576)) (fun a=>a) fun a h=>⟨anb a h,rfl⟩
def ard (e:dP):Pg dP:=.ob (e.Reserved.length<=1048576) (aL e.Items (.each false oG e.Items kW (fun d b (a:dP)=> .ix d e.Items.length (.lt (ahj b.Notes [97,108,105,97,115]) fun c=> .br c.2 (.ob (dE (a.Items.length+1) 48) (rl (dP.mk a.Name a.Open (a.Items++[Item.mk b.Name b.Num [Note.mk [97,108,105,97,115] c.1.re]]) a.Reserved a.Notes))) (.ob (dE (a.Items.length+1) 48) (rl (dP.mk a.Name a.Open (a.Items++[Item.mk b.Name b.Num []]) a.Reserved a.Notes))))) (fun d (a:dP)=> .ret a) (dP.mk e.Name e.Open [] e.Reserved [])))
def G9 (e:dP):=(ard e).val
theorem YE (e:dP)(h:e.Reserved.length<=1048576/\e.Items.length<=1048576):jG (ard e) (fun r=>r.Items.length=e.Items.length/\r.Reserved=e.Reserved/\r.Name=e.Name):=
 aj (qb3) (dw <| bY (fun(b:Nat) a=>a.Items.length=b/\a.Reserved=e.Reserved/\a.Name=e.Name) (by exact⟨rfl,rfl,rfl⟩) au (fun b a f c=>have hI:a.Items.length=b/\a.Reserved=e.Reserved/\a.Name=e.Name:=c;aU au au (aC fun g d=>dX (fun _=>aj (qb3) (ah qbc)) (fun _=>aj (qb3) (ah qbc)))) (fun a hI=>have hI:a.Items.length=e.Items.length/\a.Reserved=e.Reserved/\a.Name=e.Name:=hI;ah qbc))
def aw7:aY Z:=E1 [asn,ak4] [jS 3 (bJ (fun b=>[s0 20, .cells (pid (b 3)) [none,none,some 136,none,none]]) (ay cI (l1 jv))),jS 800001 (bJ (fun b=>[.cells (pid (b 3)) [none,none,some 136,none,none]]) (l1 jv))] (a1 (aI jv)) (shr [.slot 0 true (nn 5)] (l1 jv)) [] func25 1 ard (fun a=>a.Reserved.length<=1048576/\a.Items.length<=1048576) fun a h=>(YE a h).1
def aGC (x:aX)(t:xg):Pg Bool:=.ret (x.Name==t.Name)
def az3 (x:aX)(t:xg):=(aGC x t).val
def as1:aY Z:=yu [] [] (ak (aI fF) (a1 (iE 0))) (b1 (aS uK)) (R1 aG) [0] func98 1 (u11 aGC)
def aD8:aY Z:=Oc [as1] rq 98 [0] (b1 (aS uK)) func97 f_ fun x b=>az3 x b
def aHq (x:dP)(t:xg):Pg Bool:=.ret (x.Name==t.Name)
def az7 (x:dP)(t:xg):=(aHq x t).val
def asV:aY Z:=yu [] [] (ak (aI jv) (a1 (iE 0))) (b1 (aS uK)) (R1 aG) [0] func100 1 (u11 aHq)
def DF:aY Z:=Oc [asV] gJ 100 [0] (b1 (aS uK)) func99 jV fun x b=>az7 x b
def aay (s:aH)(t:xg):Pg Int:=.br (t.Kind==10) (.ret (iI (fun(x:aX)=>az3 x t) s.Messages)) (.br (t.Kind==9) (.ret (iI (fun(x:dP)=>az7 x t) s.Enums)) (.ret (-1)))
def wu (s:aH)(t:xg):=(aay s t).val
def alW:aY Z:=E0 [asP,aD8,as1,Bd,DF,asV] [] (ak (aI bn) (a1 (aI uK))) (R1 cI) [] func52 1 (u2 aay)
def al8 (s:aH)(m:aX)(o:Op):Prop:=∃f∈m.Fields,o.Kind=f.dS.Kind/\o.Card=f.Card/\o.Key=f.Key/\o.Target=wu s f.dS/\o.Alias=IJ f.Notes/\o.Num=f.Num
theorem apz {s:aH}{m:aX}{l:List Op}(h:∀o∈l,al8 s m o){f:aP}(b:f∈m.Fields){u:Int}:∀o∈l++[Op.mk f.Num f.Name (IJ f.Notes) f.Card f.Key f.dS.Kind (wu s f.dS) u],al8 s m o:=fun o a=>by
 rcases u_.1 a with a | a
 ·exact h o a
 ·rw[BH.1 a];exact⟨f,b,rfl,rfl,rfl,rfl,rfl,rfl⟩
theorem Gj {A B:Type}{g:A->B}{l:List A}{i:Nat}{d:A}(a:i < l.length):(l.take (i+1)).map g=(l.take i).map g++[g (l.getD i d)]:=by
 rw[take_snoc (d:=d) a,List.map_append];rfl
def aqD (s:aH)(m:aX):Pg bD:=aL m.Fields (.each false oG m.Fields aJ (fun f b (a:List Str×bD)=> .ix f m.Fields.length (.lt (wu s b.dS) fun d=> .lt (IJ b.Notes) fun c=> .br (b.Union !=[]) (.br (!a.1.any fun(x:Str)=>b.Union==x) (.ob (dE (a.1.length+1) 16) (.ob (dE (a.2.Ops.length+1) 80) (.lt (a.1++[b.Union]) fun(e:List Str)=> rl (e, bD.mk a.2.Name (a.2.Ops++[Op.mk b.Num b.Name c b.Card b.Key b.dS.Kind d (iI (fun(x:Str)=>b.Union==x) e)]) a.2.VV)))) (.ob (dE (a.2.Ops.length+1) 80) (rl (a.1, bD.mk a.2.Name (a.2.Ops++[Op.mk b.Num b.Name c b.Card b.Key b.dS.Kind d (iI (fun(x:Str)=>b.Union==x) a.1)]) a.2.VV)))) (.ob (dE (a.2.Ops.length+1) 80) (rl (a.1,bD.mk a.2.Name (a.2.Ops++[Op.mk b.Num b.Name c b.Card b.Key b.dS.Kind d (-1)]) a.2.VV))))) (fun f (a:List Str×bD)=> aL a.1 (.ret (bD.mk a.2.Name a.2.Ops (↑a.1.length:Int)))) ([],bD.mk m.Name [] 0))
def rO (s:aH)(m:aX):=(aqD s m).val
theorem EM (s:aH)(m:aX)(h:m.Fields.length<=1048576):jG (aqD s m) (fun g=>g.Ops.length<=m.Fields.length/\g.Name=m.Name/\∀o∈g.Ops,al8 s m o):=
 dw <| bY (fun(b:Nat) a=>a.1.length<=b/\a.2.Ops.length<=b/\a.2.Name=m.Name/\∀o∈a.2.Ops,al8 s m o) (by exact⟨oC 0,oC 0,rfl,fun o e=>absurd e oI⟩) au (fun b a pJ c=>have hI:a.1.length<=b/\a.2.Ops.length<=b/\a.2.Name=m.Name/\∀o∈a.2.Ops,al8 s m o:=c;aU au au (aC fun i hv4=>aC fun f hv5=>dX (fun _=>dX (fun _=>aj (qa8) (aj (qa8) (aC fun j hv6=>ah qau))) (fun _=>aj (qa8) (ah qau))) (fun _=>aj (qa8) (ah qau)))) (fun a hI=>have hI:a.1.length<=m.Fields.length/\a.2.Ops.length<=m.Fields.length/\a.2.Name=m.Name/\∀o∈a.2.Ops,al8 s m o:=hI;dw <| ah qau)
def ayS:aY Z:=E1 [aqm,alW,aiM,aAY] [jS 4 (bJ (fun b=>[s0 16, .slot 6 false [some 9], .cells (pid (b 5)) [none,some 141,none]]) (ay cI (ay bF (l1 iq)))),jS 800001 (bJ (fun b=>[.cells (pid (b 5)) [none,some 141,none]]) (l1 iq))] (ak (aI bn) (a1 (aI fF))) (shr [.slot 0 true (nn 3)] (l1 iq)) [] func24 1 (u2 aqD) (fun a=>a.2.Fields.length<=1048576) fun a h=>(EM a.1 a.2 h).1
def ach (s:aH):Pg (df×Int):=.ob (okS s) (.br (!ES s) (.ret (df.mk [] [],1)) (.cut (fun(g:df)=> aL s.Enums (.each false oG s.Enums jV (fun d c (b:df)=> .ix d s.Enums.length (.ob (c.Reserved.length<=1048576/\c.Items.length<=1048576) (.ob (dE (b.Enums.length+1) 96) (rl (df.mk b.bg (b.Enums++[G9 c])))))) (fun d (b:df)=> .ret (b,0)) g)) (aL s.Messages (.each false oG s.Messages f_ (fun f e (a:df)=> .ix f s.Messages.length (.ob (e.Fields.length<=1048576) (.ob (dE (a.bg.length+1) 48) (rl (df.mk (a.bg++[rO s e]) a.Enums))))) (fun f (a:df)=> rl a) (df.mk [] [])))))
def lH (s:aH):=(ach s).val
theorem Yv (s:aH)(h:okS s):jG (ach s) (fun r=>r.2=0->ES s=true/\r.1=df.mk (s.Messages.map (rO s)) (s.Enums.map G9)):=
 have o:s.Messages.length<=150:=h.1;have n:s.Enums.length<=150:=h.2.1;aj (qav) (dX (fun _=>ah qaq) (fun _=>bQ (fun g=>g=df.mk (s.Messages.map (rO s)) []) (dw <| bY (fun(i:Nat) a=>a=df.mk ((s.Messages.take i).map (rO s)) []) (by rfl) au (fun i a m k=>have hI:a=df.mk ((s.Messages.take i).map (rO s)) []:=k;aU au au (aj (qav) (aj (qav) (ah qaq)))) (fun a hI=>have hI:a=df.mk ((s.Messages.take s.Messages.length).map (rO s)) []:=hI;ah qaq)) (fun g c=>have c:g=df.mk (s.Messages.map (rO s)) []:=c;dw <| bY (fun(f:Nat) b=>b=df.mk (s.Messages.map (rO s)) ((s.Enums.take f).map G9)) (by(rw[c];rfl)) au (fun f b l j=>have hI:b=df.mk (s.Messages.map (rO s)) ((s.Enums.take f).map G9):=j;aU au au (aj (qav) (aj (qav) (ah qaq)))) (fun b hI=>have hI:b=df.mk (s.Messages.map (rO s)) ((s.Enums.take s.Enums.length).map G9):=hI;ah qaq))))
def Jm:aY Z:=E1 [au_,ayS,aw7] [jS 5 (bJ (fun b=>[s0 16, .cells (pid (b 4)) [some 95,some 91]]) (ay cI (l1 dN))),jS 10 (bJ (fun b=>[s0 32, .cells (pid (b 4)) [some 95,some 91]]) (ay cI (l1 dN))),jS 100009 (bJ (fun b=>[.cells (pid (b 4)) [some 95,some 91]]) (l1 dN)),jS 800003 (bJ (fun b=>[.cells (pid (b 4)) [some 95,some 91]]) (l1 dN))] (a1 (aI bn)) (shr [.slot 0 true [none,none], s0 1] (ay dN (l1 cI))) [] func11 2 ach (fun a=>okS a) fun a h=>(Yv a h).1
theorem adP {s:aH}(a:okS s)(h:(lH s).2=0):ES s=true/\(lH s).1=df.mk (s.Messages.map (rO s)) (s.Enums.map G9):=(Yv s a).2 h
theorem key_ok {b a:Int}(h:J_ b a=true)(e:b=5):iy a=true:=by
 subst e;unfold J_ afO at h;simp only[cO,bu]at h;by_cases c:1<=a
 ·by_cases d:a<=7
  ·unfold iy sIs;simp only[cO,bu];rw[wO c];exact wO au
  ·rw[wO c,sQ d]at h;cases h
 ·rw[sQ c]at h;cases h
theorem anY {s:aH}{t:xg}(h:(mg s t.Name).2=true)(a:t.Kind=10):0<=wu s t/\wu s t < s.Messages.length:=by
 have e:wu s t=iI (fun(x:aX)=>x.Name==t.Name) s.Messages:=by
  unfold wu aay;simp only[cO,bu,a];rfl
 have b:=(oM (fun(x:aX)=>x.Name==t.Name) s.Messages).1;rw[NG]at h;rw[e];by_cases c:iI (fun(x:aX)=>x.Name==t.Name) s.Messages < 0
 ·rw[wO c]at h;cases h
 ·exact⟨by omega,b⟩
theorem alU {s:aH}{f:aP}(h:P_ s f=true)(a:f.dS.Kind=10):(mg s f.dS.Name).2=true:=by
 unfold P_ aft at h;simp only[dV,cO,bu,a]at h;cases e:(mg s f.dS.Name).2 with
 | true=>rfl
 | false=>
  rw[e]at h;have h:(bif false then f.Card !=3 else false)=true:=h;cases h
theorem akw {s:aH}(c:okS s)(h:(lH s).2=0):dR (lH s).1:=by
 obtain⟨n,e⟩:=adP c h;rw[e];intro g v;obtain⟨m,i,rfl⟩:=Qb.1 v;have a:=c.2.2.2.1 m i;obtain⟨p,_,u⟩:=(EM s m a.1).2;refine⟨EZ p a.1,fun o k=> ?_⟩;obtain⟨f,r,l,j,q,w,_,t⟩:=u o k;obtain⟨f0,⟨f1,f2,f3⟩,f4⟩:=an8 n i r;refine⟨fun b=> ?_,fun d=> ?_,by rw[t];exact f0⟩
 ·rw[l]at b;obtain⟨t1,t2⟩:=anY (alU f4 b) b;show 0<=o.Target/\o.Target < ((s.Messages.map (rO s)).length:Int)
  rw[w,Qbn];exact⟨t1,t2⟩
 ·rw[j]at d;rw[q];exact key_ok f3 d
def okN (s:aH):Prop:=∀m∈s.Messages,∀f∈m.Fields,∀n∈f.Notes,n.Val.Text.length<=1048576
def J4 (p:df):Prop:=p.bg.length<=1048576/\(∀x∈p.bg,x.Name.length<=4294967296)/\(∀x∈p.Enums,x.Name.length<=4294967296)/\∀x∈p.bg,∀o∈x.Ops,o.Alias.length<=1048576
theorem amc {l:List Note}(h:∀n∈l,n.Val.Text.length<=1048576):(IJ l).length<=1048576:=by
 have b:=(oM (fun(x:Note)=>acJ x [97,108,105,97,115]) l).1;unfold IJ ahA ahj akg aiG ag6;simp only[dV,cO,lG,bu,af.dO];by_cases a:iI (fun(x:Note)=>acJ x [97,108,105,97,115]) l < 0
 ·rw[wO a];exact vP _
 ·rw[sQ a];exact h _ (getD_mem au)
theorem aEJ {s:aH}(c:okS s)(l:okN s)(h:(lH s).2=0):J4 (lH s).1:=by
 obtain⟨_,e⟩:=adP c h;rw[e];refine⟨?_,?_,?_,?_⟩
 ·show(s.Messages.map (rO s)).length<=1048576
  rw[Qbn];have:=c.1;omega
 ·intro g d;obtain⟨m,b,rfl⟩:=Qb.1 d;have a:=c.2.2.2.1 m b;have i:(rO s m).Name=m.Name:=(EM s m a.1).2.2.1;rw[i];have:=a.2.2.2.1;omega
 ·intro g d;obtain⟨m,b,rfl⟩:=Qb.1 d;have a:=c.2.2.2.2.1 m b;have i:(G9 m).Name=m.Name:=(YE m ⟨a.2.1,a.1⟩).2.2.2;rw[i];have:=a.2.2;omega
 ·intro g d o j;obtain⟨m,b,rfl⟩:=Qb.1 d;obtain⟨f,n,_,_,_,_,k,_⟩:=(EM s m (c.2.2.2.1 m b).1).2.2.2 o j;rw[k];exact amc (l m b f n)
def aGb (x:bD):Pg Bool:=.ret (decide (64 < (↑x.Ops.length:Int)))
def ajF (x:bD):=(aGb x).val
def aaM:aY Z:=E0 [] [] (a1 (aI iq)) (R1 aG) [] func318 1 aGb
def Nh:aY Z:=EI [aaM] iZ 318 func169 bV ajF
def Lr:aY Z:=EA [wU,Nh,aaM] iZ 318 func409 ajF
def LW:aY Z:=E0 [aaM,Lr] [] (ak (bz iZ) (a1 (jP 318 []))) (R1 aG) [] func317 1 fun a=>.ret (a.1.any fun(x:bD)=>(ajF x))
def aEt (x:dP):Pg Bool:=.br (decide ((↑x.Items.length:Int) < 1)) (.ret true) (.br (decide (64 < (↑x.Items.length:Int))) (.ret true) (.ret (decide (16 < (↑x.Reserved.length:Int)))))
def YT (x:dP):=(aEt x).val
def abE:aY Z:=E0 [] [] (a1 (aI jv)) (R1 aG) [] func320 1 aEt
def Gu:aY Z:=EI [abE] gJ 320 func99 jV YT
def GX:aY Z:=EA [Bd,DF,Gu,abE] gJ 320 func410 YT
def G7:aY Z:=E0 [abE,GX] [] (ak (bz gJ) (a1 (jP 320 []))) (R1 aG) [] func319 1 fun a=>.ret (a.1.any fun(x:dP)=>(YT x))
def U6 (p:df):Pg Bool:=.br (decide (64 < max (↑p.bg.length:Int) (↑p.Enums.length:Int))) (aL p.bg (aL p.Enums (.ret true))) (.br (p.bg.any fun(x:bD)=>ajF x) (aL p.bg (aL p.Enums (.ret true))) (aL p.bg (aL p.Enums (.ret (p.Enums.any fun(x:dP)=>YT x)))))
def La (p:df):=(U6 p).val
def ahq:aY Z:=E0 [LW,aaM,G7,abE] [] (a1 (aI dN)) (R1 aG) [] func245 1 U6
def akd (s:Str):Pg Bool:=.br (aa5 s) (.ret !ED s) (.ret false)
def acV (s:Str):=(akd s).val
def YG:aY Z:=E0 [QO,zX] [] (a1 (bz cStr)) (R1 aG) [] func325 1 akd
def aAQ (s:Str):Pg Bool:=.ob (List.length s<=4294967296) (.br (ahC s) (.ob ([46]=uy/\List.length s<=4294967296) (.ret !(lI 46 s).any fun(x:Str)=>ED x)) (.ret false))
def aqi (s:Str):=(aAQ s).val
def alr:aY Z:=E1 [Zm,UD,ae1,ab3,agC,arl,apu,zX] [] (a1 (bz cStr)) (R1 aG) [] func322 1 aAQ fun a=>a.length<=4294967296
def aBn (x:Op):Pg Bool:=.ret !acV x.Name
def aaY (x:Op):=(aBn x).val
def PZ:aY Z:=E0 [YG] [] (a1 (aI iU)) (R1 aG) [] func324 1 aBn
def KG:aY Z:=EI [PZ] nz 324 func395 Ak aaY
def J9:aY Z:=EA [PZ,MH,KG] nz 324 func411 aaY
def Ip:aY Z:=E0 [PZ,J9] [] (ak (bz nz) (a1 (jP 324 []))) (R1 aG) [] func323 1 fun a=>.ret (a.1.any fun(x:Op)=>(aaY x))
def aHr (x:bD):Pg Bool:=.ob (List.length x.Name<=4294967296) (.br (!aqi x.Name) (.ret true) (.ret (x.Ops.any fun(x:Op)=>aaY x)))
def OC (x:bD):=(aHr x).val
def abw:aY Z:=E1 [alr,Ip,PZ] [] (a1 (aI iq)) (R1 aG) [] func321 1 aHr fun a=>a.Name.length<=4294967296
def aGG (l:List bD):Pg Int:=aL l (.each false um l bV (fun a b (c:Unit)=> .ix a l.length (.ob (List.length b.Name<=4294967296) (.br (OC b) (.ret (.inr a)) (rl ())))) (fun a (c:Unit)=> .ret (-1)) ())
theorem ayB (l:List bD)(h:∀x∈l,x.Name.length<=4294967296):Is (aGG l):=
 eH fun _=>fU (.inr au) (fun b a _ _=>bW au au (aW ((h _ (getD_mem au))) (aT iR iR))) (fun a _=>aO)
def RV:aY Z:=E2 [abw] [jS 2 (bJ (fun b=>[s0 8]) (l1 cI))] (ak (bz iZ) (a1 (jP 321 []))) (R1 cI) [] func169 1 (fun a=>aGG a.1) (fun a=>some (∀x∈a.1,x.Name.length<=4294967296)) (fun a=>iI (fun(x:bD)=>(OC x)) a.1) fun a h=>⟨ayB a.1 h,(fun(l:List bD) _=>m_ (fun(x:bD)=>(OC x)) l 0) a.1 h⟩
def aGd (l:List bD):Pg Bool:=.ob (∀(x:bD),x∈l->List.length x.Name<=4294967296) (.lt (iI (fun(x:bD)=>OC x) l) fun a=> .ret (decide (0<=a)))
theorem aw_ (l:List bD)(h:∀x∈l,x.Name.length<=4294967296):Is (aGd l):=
 aW (h) (dC fun b a=>aO)
def Tn:aY Z:=E2 [wU,Nh,RV,abw] [] (ak (bz iZ) (a1 (jP 321 []))) (R1 aG) [] func409 1 (fun a=>aGd a.1) (fun a=>some (∀x∈a.1,x.Name.length<=4294967296)) (fun a=>a.1.any fun(x:bD)=>(OC x)) fun a h=>⟨aw_ a.1 h,(fun(l:List bD) _=>pg _ l) a.1 h⟩
def aH0 (l:List bD):Pg Bool:=.ob (∀(x:bD),x∈l->List.length x.Name<=4294967296) (.ret (l.any fun(x:bD)=>OC x))
theorem ayT (l:List bD)(h:∀x∈l,x.Name.length<=4294967296):Is (aH0 l):=
 aW (h) (aO)
def U0:aY Z:=E2 [abw,Lr,Tn] [] (ak (bz iZ) (a1 (jP 321 []))) (R1 aG) [] func317 1 (fun a=>aH0 a.1) (fun a=>some (∀x∈a.1,x.Name.length<=4294967296)) (fun a=>a.1.any fun(x:bD)=>(OC x)) fun a h=>⟨ayT a.1 h,rfl⟩
def aAF (x:Item):Pg Bool:=.ret !acV x.Name
def Zq (x:Item):=(aAF x).val
def Qg:aY Z:=E0 [YG] [] (a1 (aI lV)) (R1 aG) [] func328 1 aAF
def PY:aY Z:=EI [Qg] gW 328 func285 kW Zq
def Qs:aY Z:=EA [L6,VT,IC,PY,Qg] gW 328 func216 Zq
def PN:aY Z:=E0 [K_,TZ,Ja,Qs,Qg] [] (ak (bz gW) (a1 (jP 328 []))) (R1 aG) [] func327 1 fun a=>.ret (a.1.any fun(x:Item)=>(Zq x))
def aII (x:dP):Pg Bool:=.ob (List.length x.Name<=4294967296) (.br (!aqi x.Name) (.ret true) (.ret (x.Items.any fun(x:Item)=>Zq x)))
def OW (x:dP):=(aII x).val
def abI:aY Z:=E1 [alr,PN,Qg] [] (a1 (aI jv)) (R1 aG) [] func326 1 aII fun a=>a.Name.length<=4294967296
def aIr (l:List dP):Pg Int:=aL l (.each false um l jV (fun a b (c:Unit)=> .ix a l.length (.ob (List.length b.Name<=4294967296) (.br (OW b) (.ret (.inr a)) (rl ())))) (fun a (c:Unit)=> .ret (-1)) ())
theorem axD (l:List dP)(h:∀x∈l,x.Name.length<=4294967296):Is (aIr l):=
 eH fun _=>fU (.inr au) (fun b a _ _=>bW au au (aW ((h _ (getD_mem au))) (aT iR iR))) (fun a _=>aO)
def Ld:aY Z:=E2 [abI] [jS 2 (bJ (fun b=>[s0 8]) (l1 cI))] (ak (bz gJ) (a1 (jP 326 []))) (R1 cI) [] func99 1 (fun a=>aIr a.1) (fun a=>some (∀x∈a.1,x.Name.length<=4294967296)) (fun a=>iI (fun(x:dP)=>(OW x)) a.1) fun a h=>⟨axD a.1 h,(fun(l:List dP) _=>m_ (fun(x:dP)=>(OW x)) l 0) a.1 h⟩
def aGV (l:List dP):Pg Bool:=.ob (∀(x:dP),x∈l->List.length x.Name<=4294967296) (.lt (iI (fun(x:dP)=>OW x) l) fun a=> .ret (decide (0<=a)))
theorem axO (l:List dP)(h:∀x∈l,x.Name.length<=4294967296):Is (aGV l):=
 aW (h) (dC fun b a=>aO)
def MJ:aY Z:=E2 [Bd,DF,Gu,Ld,abI] [] (ak (bz gJ) (a1 (jP 326 []))) (R1 aG) [] func410 1 (fun a=>aGV a.1) (fun a=>some (∀x∈a.1,x.Name.length<=4294967296)) (fun a=>a.1.any fun(x:dP)=>(OW x)) fun a h=>⟨axO a.1 h,(fun(l:List dP) _=>pg _ l) a.1 h⟩
def aHf (l:List dP):Pg Bool:=.ob (∀(x:dP),x∈l->List.length x.Name<=4294967296) (.ret (l.any fun(x:dP)=>OW x))
theorem avV (l:List dP)(h:∀x∈l,x.Name.length<=4294967296):Is (aHf l):=
 aW (h) (aO)
def Md:aY Z:=E2 [abI,GX,MJ] [] (ak (bz gJ) (a1 (jP 326 []))) (R1 aG) [] func319 1 (fun a=>aHf a.1) (fun a=>some (∀x∈a.1,x.Name.length<=4294967296)) (fun a=>a.1.any fun(x:dP)=>(OW x)) fun a h=>⟨avV a.1 h,rfl⟩
def KX (p:df):Pg Bool:=.ob (∀(x:bD),x∈p.bg->List.length x.Name<=4294967296) (.br (p.bg.any fun(x:bD)=>OC x) (.ret true) (.ob (∀(x:dP),x∈p.Enums->List.length x.Name<=4294967296) (.ret (p.Enums.any fun(x:dP)=>OW x))))
def ahb (p:df):=(KX p).val
theorem abq (p:df)(h:(∀x∈p.bg,x.Name.length<=4294967296)/\∀x∈p.Enums,x.Name.length<=4294967296):Is (KX p):=
 aW (h.1) (aT iR (fun _=>aW (h.2) (aO)))
def aeV:aY Z:=E1 [LW,U0,G7,Md,abw,abI] [] (a1 (aI dN)) (R1 aG) [] func246 1 KX (fun a=>(∀x∈a.bg,x.Name.length<=4294967296)/\∀x∈a.Enums,x.Name.length<=4294967296) fun a h=>abq a h
def aG_ (x:bD)(y:bD):Pg Bool:=.ret (Op.bytesLess x.Name y.Name)
def aHl (x:bD)(y:bD):=(aG_ x y).val
def aoQ:aY Z:=E0 [] [] (ak (aI iq) (a1 (aI iq))) (R1 aG) [] func330 1 (u2 aG_)
def aD_ (l:List bD):Pg Bool:=.Hz [] (some (l.length<=9223372036854775807)) um 1 (↑l.length:Int) (fun a (c:Unit)=> .lt (dA .i64 (a - 1)) fun b=> .ix b l.length (.ix a l.length (.br (!aHl (l.getD b.toNat bV) (l.getD a.toNat bV)) (.ret (.inr false)) (rl ())))) (fun a (c:Unit)=> .ret true) ()
def aGg (l:List bD):=(aD_ l).val
theorem awf (l:List bD):Is (aD_ l):=
 yM trivial au (fun h=>by simp only[o_]at h;omega) (fun b a _ _ _=>l9 fun d c _=>bW au au (bW au au (aT iR iR))) (fun b a _ _=>aO)
def aDE:aY Z:=E0 [aoQ] [jS 2 (bJ (fun b=>[s0 5]) (l1 cI))] (ak (bz iZ) (a1 (jP 330 []))) (R1 aG) [] func329 1 (fun a=>aD_ a.1) fun a=>awf a.1
def aHv (x:dP)(y:dP):Pg Bool:=.ret (Op.bytesLess x.Name y.Name)
def aHE (x:dP)(y:dP):=(aHv x y).val
def aq6:aY Z:=E0 [] [] (ak (aI jv) (a1 (aI jv))) (R1 aG) [] func332 1 (u2 aHv)
def aCS (l:List dP):Pg Bool:=.Hz [] (some (l.length<=9223372036854775807)) um 1 (↑l.length:Int) (fun a (c:Unit)=> .lt (dA .i64 (a - 1)) fun b=> .ix b l.length (.ix a l.length (.br (!aHE (l.getD b.toNat jV) (l.getD a.toNat jV)) (.ret (.inr false)) (rl ())))) (fun a (c:Unit)=> .ret true) ()
def aHP (l:List dP):=(aCS l).val
theorem axe (l:List dP):Is (aCS l):=
 yM trivial au (fun h=>by simp only[o_]at h;omega) (fun b a _ _ _=>l9 fun d c _=>bW au au (bW au au (aT iR iR))) (fun b a _ _=>aO)
def aCP:aY Z:=E0 [aq6] [jS 2 (bJ (fun b=>[s0 5]) (l1 cI))] (ak (bz gJ) (a1 (jP 332 []))) (R1 aG) [] func331 1 (fun a=>aCS a.1) fun a=>axe a.1
def aBs (x:Op)(y:Op):Pg Bool:=.ret (decide (x.Num < y.Num))
def aFl (x:Op)(y:Op):=(aBs x y).val
def ajx:aY Z:=E0 [] [] (ak (aI iU) (a1 (aI iU))) (R1 aG) [] func335 1 (u2 aBs)
def auS (l:List Op):Pg Bool:=.Hz [] (some (l.length<=9223372036854775807)) um 1 (↑l.length:Int) (fun a (c:Unit)=> .lt (dA .i64 (a - 1)) fun b=> .ix b l.length (.ix a l.length (.br (!aFl (l.getD b.toNat Ak) (l.getD a.toNat Ak)) (.ret (.inr false)) (rl ())))) (fun a (c:Unit)=> .ret true) ()
def aFe (l:List Op):=(auS l).val
theorem atg (l:List Op):Is (auS l):=
 yM trivial au (fun h=>by simp only[o_]at h;omega) (fun b a _ _ _=>l9 fun d c _=>bW au au (bW au au (aT iR iR))) (fun b a _ _=>aO)
def av5:aY Z:=E0 [ajx] [jS 2 (bJ (fun b=>[s0 5]) (l1 cI))] (ak (bz nz) (a1 (jP 335 []))) (R1 aG) [] func334 1 (fun a=>auS a.1) fun a=>atg a.1
def aAX (x:Item)(y:Item):Pg Bool:=.ret (decide (x.Num < y.Num))
def aDB (x:Item)(y:Item):=(aAX x y).val
def als:aY Z:=E0 [] [] (ak (aI lV) (a1 (aI lV))) (R1 aG) [] func338 1 (u2 aAX)
def asl (l:List Item):Pg Bool:=.Hz [] (some (l.length<=9223372036854775807)) um 1 (↑l.length:Int) (fun a (c:Unit)=> .lt (dA .i64 (a - 1)) fun b=> .ix b l.length (.ix a l.length (.br (!aDB (l.getD b.toNat kW) (l.getD a.toNat kW)) (.ret (.inr false)) (rl ())))) (fun a (c:Unit)=> .ret true) ()
def aEr (l:List Item):=(asl l).val
theorem auq (l:List Item):Is (asl l):=
 yM trivial au (fun h=>by simp only[o_]at h;omega) (fun b a _ _ _=>l9 fun d c _=>bW au au (bW au au (aT iR iR))) (fun b a _ _=>aO)
def ax1:aY Z:=E0 [als] [jS 2 (bJ (fun b=>[s0 5]) (l1 cI))] (ak (bz gW) (a1 (jP 338 []))) (R1 aG) [] func337 1 (fun a=>asl a.1) fun a=>auq a.1
def aIK (x:bD):Pg Bool:=.ret !aFe x.Ops
def akz (x:bD):=(aIK x).val
def aae:aY Z:=E0 [av5,ajx] [] (a1 (aI iq)) (R1 aG) [] func333 1 aIK
def aaP:aY Z:=EI [aae] iZ 333 func169 bV akz
def abn:aY Z:=EA [wU,Nh,RV,aaP,aae] iZ 333 func409 akz
def aaw:aY Z:=E0 [aae,Lr,Tn,abn] [] (ak (bz iZ) (a1 (jP 333 []))) (R1 aG) [] func317 1 fun a=>.ret (a.1.any fun(x:bD)=>(akz x))
def aId (x:dP):Pg Bool:=.ret !aEr x.Items
def ajP (x:dP):=(aId x).val
def Zk:aY Z:=E0 [ax1,als] [] (a1 (aI jv)) (R1 aG) [] func336 1 aId
def Rq:aY Z:=EI [Zk] gJ 336 func99 jV ajP
def VM:aY Z:=EA [Bd,DF,Gu,Ld,Rq,Zk] gJ 336 func410 ajP
def VS:aY Z:=E0 [Zk,GX,MJ,VM] [] (ak (bz gJ) (a1 (jP 336 []))) (R1 aG) [] func319 1 fun a=>.ret (a.1.any fun(x:dP)=>(ajP x))
def UY (p:df):Pg Bool:=.br (!aGg p.bg) (.ret true) (.br (!aHP p.Enums) (.ret true) (.br (p.bg.any fun(x:bD)=>akz x) (.ret true) (.ret (p.Enums.any fun(x:dP)=>ajP x))))
def aeR (p:df):=(UY p).val
def ZM:aY Z:=E0 [LW,U0,aaw,G7,Md,VS,aDE,aoQ,aCP,aq6,aae,Zk] [] (a1 (aI dN)) (R1 aG) [] func247 1 UY
def aAp (x:Op):Pg (List UInt8):=.ret x.Name
def au6 (x:Op):=(aAp x).val
def Zu:aY Z:=E0 [] [] (a1 (aI iU)) (R1 cStr) [] func342 1 aAp
def aA3 (y:Op)(z:Op):Pg Bool:=.ret (au6 y==au6 z)
def abJ (y:Op)(z:Op):=(aA3 y z).val
def PI:aY Z:=yu [Zu] [] (ak (aI iU) (ak (iE 0) (a1 (iE 1)))) (gQ (bFn 342 []) (b1 (aS iU))) (R1 aG) [0,1] func412 1 fun a=>aA3 a.1.1 a.2.2
def QN:aY Z:=Oc [PI] nz 412 [0,1] (gQ (bFn 342 []) (b1 (aS iU))) func395 Ak fun x b=>abJ x b.2
def QW:aY Z:=EAB [MH,KG,QN,PI] nz 412 [0,1] (gQ (bFn 342 []) (b1 (aS iU))) func411 fun x b=>abJ x b.2
def PK:aY Z:=yu [J9,QW,PI] [] (ak (bz nz) (a1 (jP 412 [0,1]))) (gQ (bFn 342 []) (b1 (aS iU))) (R1 aG) [0,1] func323 1 fun a=>.ret (a.1.1.any fun(x:Op)=>(abJ x a.2.2))
def aIz (l:List Op):Pg Bool:=aL l (.each false um l Ak (fun a c (b:Unit)=> .ix a l.length (.ob ((0:Int)<=0/\0<=a/\a<=(↑l.length:Int)) (.br ((List.take a.toNat l).any fun(x:Op)=>abJ x c) (.ret (.inr true)) (rl ())))) (fun a (b:Unit)=> .ret false) ())
def aGW (l:List Op):=(aIz l).val
def aB3:aY Z:=E0 [Ip,PK,Zu,PI] [jS 2 (bJ (fun b=>[s0 9]) (l1 cI))] (ak (bz nz) (a1 (jP 342 []))) (R1 aG) [] func341 1 fun a=>aIz a.1
def alx (x:Item):Pg (List UInt8):=.ret x.Name
def aci (x:Item):=(alx x).val
def LQ:aY Z:=E0 [] [] (a1 (aI lV)) (R1 cStr) [] func345 1 alx
def alz (y:Item)(z:Item):Pg Bool:=.ret (aci y==aci z)
def Jc (y:Item)(z:Item):=(alz y z).val
def Fe:aY Z:=yu [LQ] [] (ak (aI lV) (ak (iE 0) (a1 (iE 1)))) (gQ (bFn 345 []) (b1 (aS lV))) (R1 aG) [0,1] func413 1 fun a=>alz a.1.1 a.2.2
def LY:aY Z:=Oc [Fe] gW 413 [0,1] (gQ (bFn 345 []) (b1 (aS lV))) func285 kW fun x b=>Jc x b.2
def MX:aY Z:=EAB [L6,VT,IC,PY,LY,Fe] gW 413 [0,1] (gQ (bFn 345 []) (b1 (aS lV))) func216 fun x b=>Jc x b.2
def MW:aY Z:=yu [K_,TZ,Ja,Qs,MX,Fe] [] (ak (bz gW) (a1 (jP 413 [0,1]))) (gQ (bFn 345 []) (b1 (aS lV))) (R1 aG) [0,1] func327 1 fun a=>.ret (a.1.1.any fun(x:Item)=>(Jc x a.2.2))
def au0 (l:List Item):Pg Bool:=aL l (.each false um l kW (fun a c (b:Unit)=> .ix a l.length (.ob ((0:Int)<=0/\0<=a/\a<=(↑l.length:Int)) (.br ((List.take a.toNat l).any fun(x:Item)=>Jc x c) (.ret (.inr true)) (rl ())))) (fun a (b:Unit)=> .ret false) ())
def azi (l:List Item):=(au0 l).val
def apT:aY Z:=E0 [PN,MW,LQ,Fe] [jS 2 (bJ (fun b=>[s0 9]) (l1 cI))] (ak (bz gW) (a1 (jP 345 []))) (R1 aG) [] func344 1 fun a=>au0 a.1
def aAR (x:dP)(g:bD):Pg Bool:=.ret (x.Name==g.Name)
def Y5 (x:dP)(g:bD):=(aAR x g).val
def Qn:aY Z:=yu [] [] (ak (aI jv) (a1 (iE 0))) (b1 (aS iq)) (R1 aG) [0] func340 1 (u11 aAR)
def Qw:aY Z:=Oc [Qn] gJ 340 [0] (b1 (aS iq)) func99 jV fun x b=>Y5 x b
def Qh:aY Z:=EAB [Bd,DF,Gu,Ld,Rq,Qw,Qn] gJ 340 [0] (b1 (aS iq)) func410 fun x b=>Y5 x b
def Qu:aY Z:=yu [Qn,GX,MJ,VM,Qh] [] (ak (bz gJ) (a1 (jP 340 [0]))) (b1 (aS iq)) (R1 aG) [0] func319 1 fun a=>.ret (a.1.1.any fun(x:dP)=>(Y5 x a.2))
def aHC (x:bD)(p:df):Pg Bool:=.br (p.Enums.any fun(a:dP)=>Y5 a x) (.ret true) (.ret (aGW x.Ops))
def ald (x:bD)(p:df):=(aHC x p).val
def ZC:aY Z:=yu [G7,Md,VS,Qu,Qn,aB3,Zu] [] (ak (aI iq) (a1 (iE 0))) (b1 (aS dN)) (R1 aG) [0] func339 1 (u11 aHC)
def agI:aY Z:=Oc [ZC] iZ 339 [0] (b1 (aS dN)) func169 bV fun x b=>ald x b
def af_:aY Z:=EAB [wU,Nh,RV,aaP,agI,ZC] iZ 339 [0] (b1 (aS dN)) func409 fun x b=>ald x b
def afw:aY Z:=yu [ZC,Lr,Tn,abn,af_] [] (ak (bz iZ) (a1 (jP 339 [0]))) (b1 (aS dN)) (R1 aG) [0] func317 1 fun a=>.ret (a.1.1.any fun(x:bD)=>(ald x a.2))
def aGx (x:dP):Pg Bool:=.ret (azi x.Items)
def akY (x:dP):=(aGx x).val
def abt:aY Z:=E0 [apT,LQ] [] (a1 (aI jv)) (R1 aG) [] func343 1 aGx
def af0:aY Z:=EI [abt] gJ 343 func99 jV akY
def agb:aY Z:=EA [Bd,DF,Gu,Ld,Rq,Qw,af0,abt] gJ 343 func410 akY
def afE:aY Z:=E0 [abt,GX,MJ,VM,Qh,agb] [] (ak (bz gJ) (a1 (jP 343 []))) (R1 aG) [] func319 1 fun a=>.ret (a.1.any fun(x:dP)=>(akY x))
def ap_ (p:df):Pg Bool:=.br (p.bg.any fun(x:bD)=>ald x p) (.ret true) (.ret (p.Enums.any fun(x:dP)=>akY x))
def avY (p:df):=(ap_ p).val
def atb:aY Z:=E0 [LW,U0,aaw,afw,G7,Md,VS,Qu,afE,ZC,abt] [] (a1 (aI dN)) (R1 aG) [] func248 1 ap_
def aAl (x:Op):Pg Bool:=.br (decide (x.Num < 1)) (.ret true) (.ret (decide (65535 < x.Num)))
def aak (x:Op):=(aAl x).val
def PO:aY Z:=E0 [] [] (a1 (aI iU)) (R1 aG) [] func347 1 aAl
def abA:aY Z:=EI [PO] nz 347 func395 Ak aak
def ZL:aY Z:=EA [PO,MH,KG,QN,abA] nz 347 func411 aak
def aa3:aY Z:=E0 [PO,J9,QW,ZL] [] (ak (bz nz) (a1 (jP 347 []))) (R1 aG) [] func323 1 fun a=>.ret (a.1.any fun(x:Op)=>(aak x))
def aG1 (x:bD):Pg Bool:=.ret (x.Ops.any fun(x:Op)=>aak x)
def aly (x:bD):=(aG1 x).val
def aac:aY Z:=E0 [Ip,PK,aa3,PO] [] (a1 (aI iq)) (R1 aG) [] func346 1 aG1
def atK:aY Z:=EI [aac] iZ 346 func169 bV aly
def ass:aY Z:=EA [wU,Nh,RV,aaP,agI,atK,aac] iZ 346 func409 aly
def atA:aY Z:=E0 [aac,Lr,Tn,abn,af_,ass] [] (ak (bz iZ) (a1 (jP 346 []))) (R1 aG) [] func317 1 fun a=>.ret (a.1.any fun(x:bD)=>(aly x))
def aIC (x:Item)(e:dP):Pg Bool:=.br (decide (2147483647 < x.Num)) (.ret true) (.ret (Hm e.Reserved x.Num))
def ajt (x:Item)(e:dP):=(aIC x e).val
def Zg:aY Z:=yu [Dj] [] (ak (aI lV) (a1 (iE 0))) (b1 (aS jv)) (R1 aG) [0] func414 1 (u11 aIC)
def au9:aY Z:=Oc [Zg] gW 414 [0] (b1 (aS jv)) func285 kW fun x b=>ajt x b
def arf:aY Z:=EAB [L6,VT,IC,PY,LY,au9,Zg] gW 414 [0] (b1 (aS jv)) func216 fun x b=>ajt x b
def aqg:aY Z:=yu [K_,TZ,Ja,Qs,MX,arf,Zg] [] (ak (bz gW) (a1 (jP 414 [0]))) (b1 (aS jv)) (R1 aG) [0] func327 1 fun a=>.ret (a.1.1.any fun(x:Item)=>(ajt x a.2))
def ouC (x:dP):Pg Bool:=aL x.Reserved (.each false um x.Reserved uO (fun b a (e:Unit)=> .ix b x.Reserved.length (.br (decide (a.From < 0)) (.ret (.inr true)) (.br (decide (2147483647 < a.To)) (.ret (.inr true)) (.br (decide (a.To < a.From)) (.ret (.inr true)) (.br (decide (0 < b)) (.lt (dA .i64 (b - 1)) fun d=> .ix d x.Reserved.length (.br (decide (a.From<=(x.Reserved.getD d.toNat uO).To)) (.ret (.inr true)) (rl ()))) (rl ())))))) (fun b (e:Unit)=> .ix 0 x.Items.length (.br ((x.Items.getD 0 kW).Num !=0) (.ret true) (.ret (x.Items.any fun(c:Item)=>ajt c x)))) ())
def aeH (x:dP):=(ouC x).val
def akX:aY Z:=E1 [PN,MW,aqg,Zg] [jS 2 (bJ (fun b=>[s0 8]) (l1 cI))] (a1 (aI jv)) (R1 aG) [] func348 1 ouC fun a=>0 < a.Items.length
def ouI (l:List dP):Pg Int:=aL l (.each false um l jV (fun a b (c:Unit)=> .ix a l.length (.ob (0 < b.Items.length) (.br (aeH b) (.ret (.inr a)) (rl ())))) (fun a (c:Unit)=> .ret (-1)) ())
theorem aEb (l:List dP)(h:∀x∈l,0 < x.Items.length):Is (ouI l):=
 eH fun _=>fU (.inr au) (fun b a _ _=>bW au au (aW ((h _ (getD_mem au))) (aT iR iR))) (fun a _=>aO)
def aBi:aY Z:=E2 [akX] [jS 2 (bJ (fun b=>[s0 8]) (l1 cI))] (ak (bz gJ) (a1 (jP 348 []))) (R1 cI) [] func99 1 (fun a=>ouI a.1) (fun a=>some (∀x∈a.1,0 < x.Items.length)) (fun a=>iI (fun(x:dP)=>(aeH x)) a.1) fun a h=>⟨aEb a.1 h,(fun(l:List dP) _=>m_ (fun(x:dP)=>(aeH x)) l 0) a.1 h⟩
def ouA (l:List dP):Pg Bool:=.ob (∀(x:dP),x∈l->0 < x.Items.length) (.lt (iI (fun(x:dP)=>aeH x) l) fun a=> .ret (decide (0<=a)))
theorem aDi (l:List dP)(h:∀x∈l,0 < x.Items.length):Is (ouA l):=
 aW (h) (dC fun b a=>aO)
def aBd:aY Z:=E2 [Bd,DF,Gu,Ld,Rq,Qw,af0,aBi,akX] [] (ak (bz gJ) (a1 (jP 348 []))) (R1 aG) [] func410 1 (fun a=>ouA a.1) (fun a=>some (∀x∈a.1,0 < x.Items.length)) (fun a=>a.1.any fun(x:dP)=>(aeH x)) fun a h=>⟨aDi a.1 h,(fun(l:List dP) _=>pg _ l) a.1 h⟩
def ouO (l:List dP):Pg Bool:=.ob (∀(x:dP),x∈l->0 < x.Items.length) (.ret (l.any fun(x:dP)=>aeH x))
theorem aEM (l:List dP)(h:∀x∈l,0 < x.Items.length):Is (ouO l):=
 aW (h) (aO)
def azZ:aY Z:=E2 [akX,GX,MJ,VM,Qh,agb,aBd] [] (ak (bz gJ) (a1 (jP 348 []))) (R1 aG) [] func319 1 (fun a=>ouO a.1) (fun a=>some (∀x∈a.1,0 < x.Items.length)) (fun a=>a.1.any fun(x:dP)=>(aeH x)) fun a h=>⟨aEM a.1 h,rfl⟩
def ajs (p:df):Pg Bool:=.br (p.bg.any fun(x:bD)=>aly x) (.ret true) (.ob (∀(x:dP),x∈p.Enums->0 < x.Items.length) (.ret (p.Enums.any fun(x:dP)=>aeH x)))
def arR (p:df):=(ajs p).val
def al9:aY Z:=E1 [LW,U0,aaw,afw,atA,G7,Md,VS,Qu,afE,azZ,aac,akX] [] (a1 (aI dN)) (R1 aG) [] func249 1 ajs fun a=>∀x∈a.Enums,0 < x.Items.length
def aqV (o:Op):Pg Bool:=.br (o.Card !=5) (.ret (o.Key==0)) (.br (decide (1<=o.Key)) (.br (decide (o.Key<=7)) (.ret (o.Key !=6)) (.ret false)) (.ret false))
def aw6 (o:Op):=(aqV o).val
def as5:aY Z:=E0 [] [] (a1 (aI iU)) (R1 aG) [] func352 1 aqV
def aoY (p:df)(o:Op):Pg Bool:=.br (o.Kind==10) (.br (decide (0<=o.Target)) (.br (decide (o.Target < (↑p.bg.length:Int))) (aL p.bg (.ret (o.Card !=3))) (aL p.bg (.ret false))) (.ret false)) (.br (o.Kind==9) (.br (decide (0<=o.Target)) (aL p.Enums (.ret (decide (o.Target < (↑p.Enums.length:Int))))) (.ret false)) (.br (iy o.Kind) (.ret (o.Target==(-1))) (.ret false)))
def awe (p:df)(o:Op):=(aoY p o).val
def ath:aY Z:=E0 [F8] [] (ak (aI dN) (a1 (aI iU))) (R1 aG) [] func353 1 (u2 aoY)
def ak_ (g:bD):Pg Bool:=aL g.Ops (.each false oG g.Ops Ak (fun c a (b:Int×Int)=> .ix c g.Ops.length (.br (a.Union !=(-1)) (.br (a.Card !=2) (.ret (.inr false)) (.lt (dA .i64 (b.1+1)) fun d=> .br (a.Union !=d) (.br (a.Union !=b.2) (.ret (.inr false)) (rl (max b.1 a.Union,a.Union))) (rl (max b.1 a.Union,a.Union)))) (rl (max b.1 a.Union,a.Union)))) (fun c (b:Int×Int)=> .ret (g.VV==dA .i64 (b.1+1))) ((-1),(-1)))
def as3 (g:bD):=(ak_ g).val
def ano:aY Z:=E0 [] [jS 3 (bJ (fun b=>[s0 10, s0 3, s0 4]) (ay cI (ay cI (l1 cI))))] (a1 (aI iq)) (R1 aG) [] func350 1 ak_
def aA_ (x:Op)(p:df):Pg Bool:=.ob (List.length x.Alias<=9223372036854775700) (.br (!EK x.Alias) (.ret true) (.br (decide (4096 < (↑(List.length x.Alias):Int))) (.ret true) (.br (decide (x.Card < 1)) (.ret true) (.br (decide (5 < x.Card)) (.ret true) (.br (!aw6 x) (.ret true) (.ret !awe p x))))))
def Ei (x:Op)(p:df):=(aA_ x p).val
def QI:aY Z:=Df [Dz,as5,ath] [] (ak (aI iU) (a1 (iE 0))) (b1 (aS dN)) (R1 aG) [0] func351 1 (u11 aA_) fun a=>a.1.1.Alias.length<=1048576
def aAu (l:List Op)(p:df):Pg Int:=aL l (.each false um l Ak (fun a b (c:Unit)=> .ix a l.length (.ob (List.length b.Alias<=1048576) (.br (Ei b p) (.ret (.inr a)) (rl ())))) (fun a (c:Unit)=> .ret (-1)) ())
theorem arV (l:List Op)(p:df)(h:∀x∈l,x.Alias.length<=1048576):Is (aAu l p):=
 eH fun _=>fU (.inr au) (fun b a _ _=>bW au au (aW ((h _ (getD_mem au))) (aT iR iR))) (fun a _=>aO)
def ajG:aY Z:=XX [QI] [jS 2 (bJ (fun b=>[s0 8]) (l1 cI))] (ak (bz nz) (a1 (jP 351 [0]))) (b1 (aS dN)) (R1 cI) [0] func395 1 (u11 aAu) (fun a=>some (∀x∈a.1.1,x.Alias.length<=1048576)) (fun a=>iI (fun(x:Op)=>(Ei x a.2)) a.1.1) fun a h=>⟨arV a.1.1 a.2 h,(fun(l:List Op) p _=>m_ (fun(x:Op)=>(Ei x p)) l 0) a.1.1 a.2 h⟩
def aBy (l:List Op)(p:df):Pg Bool:=.ob (∀(x:Op),x∈l->List.length x.Alias<=1048576) (.lt (iI (fun(x:Op)=>Ei x p) l) fun a=> .ret (decide (0<=a)))
theorem aue (l:List Op)(p:df)(h:∀x∈l,x.Alias.length<=1048576):Is (aBy l p):=
 aW (h) (dC fun b a=>aO)
def ako:aY Z:=XX [QI,MH,KG,QN,abA,ajG] [] (ak (bz nz) (a1 (jP 351 [0]))) (b1 (aS dN)) (R1 aG) [0] func411 1 (u11 aBy) (fun a=>some (∀x∈a.1.1,x.Alias.length<=1048576)) (fun a=>a.1.1.any fun(x:Op)=>(Ei x a.2)) fun a h=>⟨aue a.1.1 a.2 h,(fun(l:List Op) p _=>pg _ l) a.1.1 a.2 h⟩
def aA4 (l:List Op)(p:df):Pg Bool:=.ob (∀(x:Op),x∈l->List.length x.Alias<=1048576) (.ret (l.any fun(x:Op)=>Ei x p))
theorem aoB (l:List Op)(p:df)(h:∀x∈l,x.Alias.length<=1048576):Is (aA4 l p):=
 aW (h) (aO)
def ala:aY Z:=XX [QI,J9,QW,ZL,ako] [] (ak (bz nz) (a1 (jP 351 [0]))) (b1 (aS dN)) (R1 aG) [0] func323 1 (u11 aA4) (fun a=>some (∀x∈a.1.1,x.Alias.length<=1048576)) (fun a=>a.1.1.any fun(x:Op)=>(Ei x a.2)) fun a h=>⟨aoB a.1.1 a.2 h,rfl⟩
def aH3 (x:bD)(p:df):Pg Bool:=.br (!as3 x) (.ret true) (.ob (∀(a:Op),a∈x.Ops->List.length a.Alias<=1048576) (.ret (x.Ops.any fun(x:Op)=>Ei x p)))
def Oy (x:bD)(p:df):=(aH3 x p).val
def Zw:aY Z:=Df [Ip,PK,aa3,ala,ano,QI] [] (ak (aI iq) (a1 (iE 0))) (b1 (aS dN)) (R1 aG) [0] func349 1 (u11 aH3) fun a=>∀o∈a.1.1.Ops,o.Alias.length<=1048576
def aH_ (l:List bD)(p:df):Pg Int:=aL l (.each false um l bV (fun a b (c:Unit)=> .ix a l.length (.ob (∀(o:Op),o∈b.Ops->List.length o.Alias<=1048576) (.br (Oy b p) (.ret (.inr a)) (rl ())))) (fun a (c:Unit)=> .ret (-1)) ())
theorem azd (l:List bD)(p:df)(h:∀x∈l,∀o∈x.Ops,o.Alias.length<=1048576):Is (aH_ l p):=
 eH fun _=>fU (.inr au) (fun b a _ _=>bW au au (aW ((h _ (getD_mem au))) (aT iR iR))) (fun a _=>aO)
def aDq:aY Z:=XX [Zw] [jS 2 (bJ (fun b=>[s0 8]) (l1 cI))] (ak (bz iZ) (a1 (jP 349 [0]))) (b1 (aS dN)) (R1 cI) [0] func169 1 (u11 aH_) (fun a=>some (∀x∈a.1.1,∀o∈x.Ops,o.Alias.length<=1048576)) (fun a=>iI (fun(x:bD)=>(Oy x a.2)) a.1.1) fun a h=>⟨azd a.1.1 a.2 h,(fun(l:List bD) p _=>m_ (fun(x:bD)=>(Oy x p)) l 0) a.1.1 a.2 h⟩
def aGi (l:List bD)(p:df):Pg Bool:=.ob (∀(x:bD),x∈l->∀(o:Op),o∈x.Ops->List.length o.Alias<=1048576) (.lt (iI (fun(x:bD)=>Oy x p) l) fun a=> .ret (decide (0<=a)))
theorem axF (l:List bD)(p:df)(h:∀x∈l,∀o∈x.Ops,o.Alias.length<=1048576):Is (aGi l p):=
 aW (h) (dC fun b a=>aO)
def aC2:aY Z:=XX [wU,Nh,RV,aaP,agI,atK,aDq,Zw] [] (ak (bz iZ) (a1 (jP 349 [0]))) (b1 (aS dN)) (R1 aG) [0] func409 1 (u11 aGi) (fun a=>some (∀x∈a.1.1,∀o∈x.Ops,o.Alias.length<=1048576)) (fun a=>a.1.1.any fun(x:bD)=>(Oy x a.2)) fun a h=>⟨axF a.1.1 a.2 h,(fun(l:List bD) p _=>pg _ l) a.1.1 a.2 h⟩
def aGB (l:List bD)(p:df):Pg Bool:=.ob (∀(x:bD),x∈l->∀(o:Op),o∈x.Ops->List.length o.Alias<=1048576) (.ret (l.any fun(x:bD)=>Oy x p))
theorem axB (l:List bD)(p:df)(h:∀x∈l,∀o∈x.Ops,o.Alias.length<=1048576):Is (aGB l p):=
 aW (h) (aO)
def aDY:aY Z:=XX [Zw,Lr,Tn,abn,af_,ass,aC2] [] (ak (bz iZ) (a1 (jP 349 [0]))) (b1 (aS dN)) (R1 aG) [0] func317 1 (u11 aGB) (fun a=>some (∀x∈a.1.1,∀o∈x.Ops,o.Alias.length<=1048576)) (fun a=>a.1.1.any fun(x:bD)=>(Oy x a.2)) fun a h=>⟨axB a.1.1 a.2 h,rfl⟩
def aA9 (x:Item):Pg Bool:=.br (decide (1 < (↑x.Notes.length:Int))) (.ret true) (.br ((↑x.Notes.length:Int)==1) (.ix 0 x.Notes.length (.br ((x.Notes.getD 0 Be).Name !=[97,108,105,97,115]) (.ret true) (.ret (alg x.Notes (4:Int) !=0)))) (.ret false))
def ZW (x:Item):=(aA9 x).val
def P5:aY Z:=E0 [adJ] [] (a1 (aI lV)) (R1 aG) [] func355 1 aA9
def ayL:aY Z:=EI [P5] gW 355 func285 kW ZW
def axv:aY Z:=EA [L6,VT,IC,PY,LY,au9,ayL,P5] gW 355 func216 ZW
def ayY:aY Z:=E0 [K_,TZ,Ja,Qs,MX,arf,axv,P5] [] (ak (bz gW) (a1 (jP 355 []))) (R1 aG) [] func327 1 fun a=>.ret (a.1.any fun(x:Item)=>(ZW x))
def aHe (x:dP):Pg Bool:=.br (decide (0 < (↑x.Notes.length:Int))) (.ret true) (.ret (x.Items.any fun(x:Item)=>ZW x))
def ajZ (x:dP):=(aHe x).val
def ZH:aY Z:=E0 [PN,MW,aqg,ayY,P5] [] (a1 (aI jv)) (R1 aG) [] func354 1 aHe
def aCb:aY Z:=EI [ZH] gJ 354 func99 jV ajZ
def aC6:aY Z:=EA [Bd,DF,Gu,Ld,Rq,Qw,af0,aBi,aCb,ZH] gJ 354 func410 ajZ
def aE3:aY Z:=E0 [ZH,GX,MJ,VM,Qh,agb,aBd,aC6] [] (ak (bz gJ) (a1 (jP 354 []))) (R1 aG) [] func319 1 fun a=>.ret (a.1.any fun(x:dP)=>(ajZ x))
def aqh (p:df):Pg Bool:=.ob (∀(x:bD),x∈p.bg->∀(o:Op),o∈x.Ops->List.length o.Alias<=1048576) (.br (p.bg.any fun(x:bD)=>Oy x p) (.ret true) (.ret (p.Enums.any fun(x:dP)=>ajZ x)))
def axP (p:df):=(aqh p).val
def apC:aY Z:=E1 [LW,U0,aaw,afw,atA,aDY,G7,Md,VS,Qu,afE,azZ,aE3,Zw,ZH] [] (a1 (aI dN)) (R1 aG) [] func250 1 aqh fun a=>∀x∈a.bg,∀o∈x.Ops,o.Alias.length<=1048576
def aGQ (x:Op)(a:List Bool):Pg Bool:=.br (x.Card==1) (.br (x.Kind==10) (.ix x.Target a.length (.ob (x.Target.toNat < a.length) (.ret !a.getD x.Target.toNat false))) (.ret false)) (.ret false)
def NC (x:Op)(a:List Bool):=(aGQ x a).val
def abW:aY Z:=Df [] [] (ak (aI iU) (a1 (iE 0))) (gQ (Y4 1) (b1 (kX 4 D.bool rX))) (R1 aG) [0,1] func356 1 (fun a=>aGQ a.1.1 a.2.2) fun a=>a.1.1.Kind=10->0<=a.1.1.Target/\a.1.1.Target < a.2.2.length
def aGh (l:List Op)(b:List Bool):Pg Int:=aL l (.each false um l Ak (fun c a (d:Unit)=> .ix c l.length (.ob (a.Kind=10->0<=a.Target/\a.Target < (↑b.length:Int)) (.br (NC a b) (.ret (.inr c)) (rl ())))) (fun c (d:Unit)=> .ret (-1)) ())
theorem ayo (l:List Op)(a:List Bool)(h:∀x∈l,x.Kind=10->0<=x.Target/\x.Target < a.length):Is (aGh l a):=
 eH fun _=>fU (.inr au) (fun c b _ _=>bW au au (aW ((h _ (getD_mem au))) (aT iR iR))) (fun b _=>aO)
def aDL:aY Z:=XX [abW] [jS 2 (bJ (fun c=>[s0 8]) (l1 cI))] (ak (bz nz) (a1 (jP 356 [0]))) (gQ (Y4 1) (b1 (kX 4 D.bool rX))) (R1 cI) [0,1] func395 1 (fun a=>aGh a.1.1 a.2.2) (fun a=>some (∀x∈a.1.1,x.Kind=10->0<=x.Target/\x.Target < a.2.2.length)) (fun a=>iI (fun(x:Op)=>(NC x a.2.2)) a.1.1) fun a h=>⟨ayo a.1.1 a.2.2 h,(fun(l:List Op) b _=>m_ (fun(x:Op)=>(NC x b)) l 0) a.1.1 a.2.2 h⟩
def aG6 (l:List Op)(a:List Bool):Pg Bool:=.ob (∀(x:Op),x∈l->x.Kind=10->0<=x.Target/\x.Target < (↑a.length:Int)) (.lt (iI (fun(x:Op)=>NC x a) l) fun b=> .ret (decide (0<=b)))
theorem av6 (l:List Op)(a:List Bool)(h:∀x∈l,x.Kind=10->0<=x.Target/\x.Target < a.length):Is (aG6 l a):=
 aW (h) (dC fun c b=>aO)
def aEy:aY Z:=XX [abW,MH,KG,QN,abA,ajG,aDL] [] (ak (bz nz) (a1 (jP 356 [0]))) (gQ (Y4 1) (b1 (kX 4 D.bool rX))) (R1 aG) [0,1] func411 1 (fun a=>aG6 a.1.1 a.2.2) (fun a=>some (∀x∈a.1.1,x.Kind=10->0<=x.Target/\x.Target < a.2.2.length)) (fun a=>a.1.1.any fun(x:Op)=>(NC x a.2.2)) fun a h=>⟨av6 a.1.1 a.2.2 h,(fun(l:List Op) b _=>pg _ l) a.1.1 a.2.2 h⟩
def aIG (l:List Op)(a:List Bool):Pg Bool:=.ob (∀(x:Op),x∈l->x.Kind=10->0<=x.Target/\x.Target < (↑a.length:Int)) (.ret (l.any fun(x:Op)=>NC x a))
theorem ayf (l:List Op)(a:List Bool)(h:∀x∈l,x.Kind=10->0<=x.Target/\x.Target < a.length):Is (aIG l a):=
 aW (h) (aO)
def aB8:aY Z:=XX [abW,J9,QW,ZL,ako,aEy] [] (ak (bz nz) (a1 (jP 356 [0]))) (gQ (Y4 1) (b1 (kX 4 D.bool rX))) (R1 aG) [0,1] func323 1 (fun a=>aIG a.1.1 a.2.2) (fun a=>some (∀x∈a.1.1,x.Kind=10->0<=x.Target/\x.Target < a.2.2.length)) (fun a=>a.1.1.any fun(x:Op)=>(NC x a.2.2)) fun a h=>⟨ayf a.1.1 a.2.2 h,rfl⟩
def ixB (l:List Bool)(v:Bool):Pg Int:=aL l (.each false um l false (fun a c (b:Unit)=> .ix a l.length (.br (v==c) (.ret (.inr a)) (rl ()))) (fun a (b:Unit)=> .ret (-1)) ())
theorem aEz (l:List Bool)(v:Bool):Is (ixB l v):=
 eH fun _=>fU (.inr au) (fun b a _ _=>bW au au (aT iR iR)) (fun a _=>aO)
def aGz:aY Z:=E2 [] [jS 2 (bJ (fun b=>[s0 8]) (l1 cI))] (ak (bz qm) (a1 (bz aG))) (R1 cI) [] func415 1 (u2 ixB) (fun a=>none) (fun a=>iI (fun(x:Bool)=>a.2==x) a.1) fun a h=>⟨aEz a.1 a.2,(fun(l:List Bool) (v:Bool)=>m_ (fun(x:Bool)=>v==x) l 0) a.1 a.2⟩
def coB (l:List Bool)(v:Bool):Pg Bool:=.lt (iI (fun(x:Bool)=>v==x) l) fun a=> .ret (decide (0<=a))
theorem aDG (l:List Bool)(v:Bool):Is (coB l v):=
 dC fun b a=>aO
def aGo:aY Z:=E2 [aGz] [] (ak (bz qm) (a1 (bz aG))) (R1 aG) [] func357 1 (u2 coB) (fun a=>none) (fun a=>a.1.any fun(x:Bool)=>a.2==x) fun a h=>⟨aDG a.1 a.2,(fun(l:List Bool) (v:Bool)=>pg (fun(x:Bool)=>v==x) l) a.1 a.2⟩
def Tq (p:df):Pg Bool:=.ob ((↑p.bg.length:Int)=(↑p.bg.length:Int)/\ 0<=(↑p.bg.length:Int)/\(↑p.bg.length:Int)*(1:Int)<=281474976710656/\(↑p.bg.length:Int)<=1099511627776) (aL p.bg (aL p.bg (.cnt oG 0 (↑p.bg.length:Int) (fun e (c:List Bool)=> aL p.bg (.each false oG p.bg bV (fun b d (a:List Bool)=> .ix b p.bg.length (.ix b a.length (.ob (b.toNat < a.length) (.br (a.getD b.toNat false) (.ix b a.length (.ob (b.toNat < a.length) (rl (a.set b.toNat true)))) (.ob (∀(x:Op),x∈d.Ops->x.Kind=10->0<=x.Target/\x.Target < (↑a.length:Int)) (.ix b a.length (.ob (b.toNat < a.length) (rl (a.set b.toNat !d.Ops.any fun(x:Op)=>NC x a))))))))) (fun b (a:List Bool)=> rl a) c)) (fun e (c:List Bool)=> .ret (c.any fun(x:Bool)=>false==x)) (List.replicate p.bg.length false))))
def alQ (p:df):=(Tq p).val
theorem ZA (p:df)(h:p.bg.length<=1048576/\dR p):jG (Tq p) (fun _=>True):=
 aj (qb) (dw <| dw <| rM (fun(e:Int) a=>a.length=p.bg.length) oI au au (fun e a k j f=>have hI:a.length=p.bg.length:=f;dw <| bY (fun(g:Nat) b=>b.length=p.bg.length) (by exact hI) au (fun g b avE c=>have hI:b.length=p.bg.length:=c;aU au au (aU au au (aj (qb) (dX (fun _=>aU au au (aj (qb) (ah qbe))) (fun _=>aj (qb) (aU au au (aj (qb) (ah qbe)))))))) (fun b hI=>have hI:b.length=p.bg.length:=hI;ah qbe)) (fun e a _ i hI=>have hI:a.length=p.bg.length:=hI;ah qbe))
def afU:aY Z:=E1 [Ip,PK,aa3,ala,aB8,abW,aGo] [jS 3 (bJ (fun b=>[s0 13, .row (pid (b 9)) 4]) (ay cI (l1 qm))),jS 5 (bJ (fun b=>[s0 18, .row (pid (b 9)) 4]) (ay cI (l1 qm)))] (a1 (aI dN)) (R1 aG) [] func251 1 Tq (fun a=>a.bg.length<=1048576/\dR a) fun a h=>(ZA a h).1
theorem WU {p:df}(h:La p=false):∀x∈p.Enums,0 < x.Items.length:=by
 intro x a;unfold La U6 at h;simp only[kK,cO,bu,Qbu]at h;have k:(p.Enums.any fun x=>YT x)=false:=by
  (repeat' split at h)<;>first | exact h | cases h
 have b:=Qco.1 k x a;rcases Qcm x.Items.length with e | e
 ·refine absurd ?_ b;unfold YT aEt;simp only[kK,cO,bu];rw[wO (show(x.Items.length:Int) < 1 by omega)];rfl
 ·exact e
def afT (p:df):Pg Int:=.br (La p) (.ret 3) (.ob ((∀(x:bD),x∈p.bg->List.length x.Name<=4294967296)/\∀(x:dP),x∈p.Enums->List.length x.Name<=4294967296) (.br (ahb p) (.ret 8) (.br (aeR p) (.ret 11) (.br (avY p) (.ret 9) (.ob (∀(x:dP),x∈p.Enums->0 < x.Items.length) (.br (arR p) (.ret 6) (.ob (∀(x:bD),x∈p.bg->∀(o:Op),o∈x.Ops->List.length o.Alias<=1048576) (.br (axP p) (.ret 1) (.ob (p.bg.length<=1048576/\dR p) (.br (alQ p) (.ret 19) (.ret 0)))))))))))
def ayM (p:df):=(afT p).val
theorem alY (p:df)(h:J4 p/\dR p):Is (afT p):=
 aT iR (fun a=>aW ⟨h.1.2.1,h.1.2.2.1⟩ (aT iR (fun _=>aT iR (fun _=>aT iR (fun _=>aW (WU a) (aT iR (fun _=>aW h.1.2.2.2 (aT iR (fun _=>aW ⟨h.1.1,h.2⟩ (aT iR iR))))))))))
def asG:aY Z:=E1 [ahq,aeV,ZM,atb,al9,apC,afU] [] (a1 (aI dN)) (R1 cI) [] func176 1 afT (fun a=>J4 a/\dR a) fun a h=>alY a h
end
end Go.Proofs.YtebmficbjhcohaaGreatDoor

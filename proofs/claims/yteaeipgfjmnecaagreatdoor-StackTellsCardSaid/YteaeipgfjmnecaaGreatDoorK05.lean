/- Lemmas; each says its own conditions. -/
import Derived.Test.YteaeipgfjmnecaaGreatDoorK04
open And renaming intro->a7
open Bool renaming false->Q,true->S
open Go renaming Calls->bB,World->ac,bodyPost_ret->cT,heap_alloc_new->aQ
open Go.World renaming cell?_alloc_lt->wq,size_alloc->em,size_drew->nG
open Go.IntKind renaming i64->o
open List renaming getElem?_cons_succ->cO,getElem?_cons_zero->cU,getElem?_toArray->cP
open Go.Obj renaming cells->Y
open Option renaming none->F,some->D
open Go.Proofs.Tryz renaming prog->aj
open Go.Value renaming agg->aq,int->B,pointer->ad
namespace Go.Proofs.YteaeipgfjmnecaaGreatDoor
set_option linter.unusedSimpArgs false
set_option linter.unusedVariables false
set_option maxHeartbeats 12800000
section
set_option maxRecDepth 100000
open Go.RowKit
variable {M a c n v x:Int}{b g j:Nat}{af:Obj}{u:Value}{w:ac}
def d3(v x y:Int):Int:=if v=0 then x else if v=1 then y else if v=2 then x+y else x-y
theorem Dv{y:Int}(cn: -M<=x)(co:x<=M)(c4: -M<=y)(c5:y<=M): -(2*M)<=d3 v x y/\d3 v x y<=2*M:=by
 unfold d3;split <;> (try split) <;> (try split) <;> omega
theorem v7(v x y:Int)(w:ac)(cn: -4000000<=x)(co:x<=4000000)(c4: -4000000<=y)(c5:y<=4000000):
  bB aj 119 #[B o v, aq #[B o x, B o y]] w fun e Z=>e= .returned (B o (d3 v x y))/\Below w.heap.size w Z:=by
 have l:=aV w (Y #[B o x, B o y] 40);by_cases h0:v=0
 ·subst h0
  go_in;go_wp2;go_ret;exact⟨by simp[d3],l⟩
 by_cases h1:v=1
 ·subst h1
  go_in;go_wp2;go_ret;exact⟨by simp[d3],l⟩
 by_cases ab:v=2
 ·subst ab
  go_in;go_wp2;go_ret;exact⟨by simp[d3],l⟩
 have b0:(v==0)=Q:=by simpa using h0
 have b1:(v==1)=Q:=by simpa using h1
 have aC:(v==2)=Q:=by simpa using ab
 have bd:Hid (d3 v x y=x-y):=R (by simp[d3,h0,h1,ab]);clear h0 h1 ab;go_in;go_wp2;go_ret;exact⟨by rw[bd.out];rfl,l⟩
theorem v6(v x y:Int)(w:ac)(cn: -4000000<=x)(co:x<=4000000)(c4: -4000000<=y)(c5:y<=4000000):
  bB aj 113 #[B o v, aq #[B o x, B o y]] w fun e Z=>e= .returned (B o (d3 v x y))/\Below w.heap.size w Z:=by
 have l:=aV w (Y #[B o x, B o y] 40);by_cases h0:v=0
 ·subst h0
  go_in;go_wp2;go_ret;exact⟨by simp[d3],l⟩
 by_cases h1:v=1
 ·subst h1
  go_in;go_wp2;go_ret;exact⟨by simp[d3],l⟩
 by_cases ab:v=2
 ·subst ab
  go_in;go_wp2;go_ret;exact⟨by simp[d3],l⟩
 have b0:(v==0)=Q:=by simpa using h0
 have b1:(v==1)=Q:=by simpa using h1
 have aC:(v==2)=Q:=by simpa using ab
 have bd:Hid (d3 v x y=x-y):=R (by simp[d3,h0,h1,ab]);clear h0 h1 ab;go_in;go_wp2;go_ret;exact⟨by rw[bd.out];rfl,l⟩
abbrev aR:=Int×Int×Int×Int×Int×Int
abbrev b2(m:aR):Value:= aq #[B o m.1, B o m.2.1, B o m.2.2.1, B o m.2.2.2.1, B o m.2.2.2.2.1, B o m.2.2.2.2.2]
def fE(v c:Int):aR:=if v=0 then(-1,0,0,1,2*c,0) else if v=1 then(1,0,0, -1,0,2*c) else if v=2 then(0, -1, -1,0,c,c) else(0,1,1,0,c, -c)
def pw(w:ac)(v c:Int):ac:=(w.alloc (Y #[B o v, B o c] 67)).alloc (Y #[B o 0, B o 0, B o 0, B o 0, B o 0, B o 0] 64)
theorem ut(v c:Int)(w:ac)(c1: -1000000<=c)(c2:c<=1000000):
  bB aj 17 #[aq #[B o v, B o c]] w fun e Z=>e= .returned (b2 (fE v c))/\Below w.heap.size w Z:=by
 by_cases h0:v=0
 ·subst h0
  go_in;go_wp2;refine cT (v:=b2 (-1,0,0,1,2*c,0)) (by simp[results,Tryz.results17,go_sem]) rfl ⟨by simp[fE], ?_⟩;exact(aX.alloc ce _).alloc (by simp) _
 by_cases h1:v=1
 ·subst h1
  go_in;go_wp2;refine cT (v:=b2 (1,0,0, -1,0,2*c)) (by simp[results,Tryz.results17,go_sem]) rfl ⟨by simp[fE], ?_⟩;exact(aX.alloc ce _).alloc (by simp) _
 by_cases ab:v=2
 ·subst ab
  go_in;go_wp2;refine cT (v:=b2 (0, -1, -1,0,c,c)) (by simp[results,Tryz.results17,go_sem]) rfl ⟨by simp[fE], ?_⟩;exact(aX.alloc ce _).alloc (by simp) _
 have b0:(v==0)=Q:=by simpa using h0
 have b1:(v==1)=Q:=by simpa using h1
 have aC:(v==2)=Q:=by simpa using ab
 have bd:Hid (fE v c=(0,1,1,0,c, -c)):=R (by simp[fE,h0,h1,ab]);clear h0 h1 ab;go_in;go_wp2;refine cT (v:=b2 (0,1,1,0,c, -c)) (by simp[results,Tryz.results17,go_sem]) rfl ⟨by rw[bd.out], ?_⟩;exact(aX.alloc ce _).alloc (by simp) _
theorem AC(v c:Int)(w:ac)(c1: -1000000<=c)(c2:c<=1000000):
  bB aj 74 #[aq #[B o v, B o c]] w fun e Z=>e= .returned (b2 (fE v c))/\Below w.heap.size w Z:=by
 by_cases h0:v=0
 ·subst h0
  go_in;go_wp2;refine cT (v:=b2 (-1,0,0,1,2*c,0)) (by simp[results,Tryz.results74,go_sem]) rfl ⟨by simp[fE], ?_⟩;exact(aX.alloc ce _).alloc (by simp) _
 by_cases h1:v=1
 ·subst h1
  go_in;go_wp2;refine cT (v:=b2 (1,0,0, -1,0,2*c)) (by simp[results,Tryz.results74,go_sem]) rfl ⟨by simp[fE], ?_⟩;exact(aX.alloc ce _).alloc (by simp) _
 by_cases ab:v=2
 ·subst ab
  go_in;go_wp2;refine cT (v:=b2 (0, -1, -1,0,c,c)) (by simp[results,Tryz.results74,go_sem]) rfl ⟨by simp[fE], ?_⟩;exact(aX.alloc ce _).alloc (by simp) _
 have b0:(v==0)=Q:=by simpa using h0
 have b1:(v==1)=Q:=by simpa using h1
 have aC:(v==2)=Q:=by simpa using ab
 have bd:Hid (fE v c=(0,1,1,0,c, -c)):=R (by simp[fE,h0,h1,ab]);clear h0 h1 ab;go_in;go_wp2;refine cT (v:=b2 (0,1,1,0,c, -c)) (by simp[results,Tryz.results74,go_sem]) rfl ⟨by rw[bd.out], ?_⟩;exact(aX.alloc ce _).alloc (by simp) _
def ew(a b:Int):Bool:=(a==1 || a== -1) && b==0
def dh(a b c d:Int):Bool:=(ew a b && ew d c) || (ew b a && ew c d)
theorem ck(ao: -1<=a)(a2:a<=1)(cn: -M<=x)(co:x<=M): -M<=a*x/\a*x<=M:=by
 have h:a= -1∨a=0∨a=1:=by omega
 rcases h with rfl | rfl | rfl <;> omega
structure jy(a b c d e f:Int):Prop where
 ao: -1<=a
 a2:a<=1
 b1: -1<=b
 aC:b<=1
 c1: -1<=c
 c2:c<=1
 d1: -1<=d
 d2:d<=1
 ap: -1000000<=e
 ak:e<=1000000
 f1: -1000000<=f
 f2:f<=1000000
theorem nf(a b c d e f x y:Int)(w:ac)(p0: -4000000<=a*x/\a*x<=4000000)(cz: -4000000<=b*y/\b*y<=4000000)(b9: -4000000<=c*x/\c*x<=4000000)(dZ: -4000000<=d*y/\d*y<=4000000)(dO: -4000000<=e/\e<=4000000)(eJ: -4000000<=f/\f<=4000000):
  bB aj 56 #[aq #[B o a, B o b, B o c, B o d, B o e, B o f],bu x y] w fun ah Z=>ah= .returned (bu (a*x+b*y+e) (c*x+d*y+f))/\Below w.heap.size w Z:=by
 go_in;go_wp2;refine cT (v:=bu (a*x+b*y+e) (c*x+d*y+f)) (by simp[results,Tryz.results56,go_sem]) rfl ⟨rfl, ?_⟩;exact aN (aN (aN aX _) _) _
theorem jd(a b c d e f x y:Int)(w:ac)(p0: -4000000<=a*x/\a*x<=4000000)(cz: -4000000<=b*y/\b*y<=4000000)(b9: -4000000<=c*x/\c*x<=4000000)(dZ: -4000000<=d*y/\d*y<=4000000)(dO: -4000000<=e/\e<=4000000)(eJ: -4000000<=f/\f<=4000000):
  bB aj 78 #[aq #[B o a, B o b, B o c, B o d, B o e, B o f],bu x y] w fun ah Z=>ah= .returned (bu (a*x+b*y+e) (c*x+d*y+f))/\Below w.heap.size w Z:=by
 go_in;go_wp2;refine cT (v:=bu (a*x+b*y+e) (c*x+d*y+f)) (by simp[results,Tryz.results78,go_sem]) rfl ⟨rfl, ?_⟩;exact aN (aN (aN aX _) _) _
theorem sB(p q r s e f P J K L E T:Int)(w:ac)(U:jy p q r s e f)(l:jy P J K L E T):
  bB aj 18 #[aq #[B o p, B o q, B o r, B o s, B o e, B o f], aq #[B o P, B o J, B o K, B o L, B o E, B o T]] w fun ah Z=>ah= .returned (aq #[B o (P*p+J*r), B o (P*q+J*s), B o (K*p+L*r), B o (K*q+L*s), B o (P*e+J*f+E), B o (K*e+L*f+T)])/\Below w.heap.size w Z:=by
 have d6:=ck (M:=1) l.ao l.a2 U.ao U.a2;have d8:=ck (M:=1) l.b1 l.aC U.c1 U.c2;have d9:=ck (M:=1) l.ao l.a2 U.b1 U.aC;have ea:=ck (M:=1) l.b1 l.aC U.d1 U.d2;have eb:=ck (M:=1) l.c1 l.c2 U.ao U.a2;have ec:=ck (M:=1) l.d1 l.d2 U.c1 U.c2;have ed:=ck (M:=1) l.c1 l.c2 U.b1 U.aC;have ee:=ck (M:=1) l.d1 l.d2 U.d1 U.d2;have u0:=ck (M:=1000000) l.ao l.a2 U.ap U.ak;have u1:=ck (M:=1000000) l.b1 l.aC U.f1 U.f2;have u2:=ck (M:=1000000) l.c1 l.c2 U.ap U.ak;have u3:=ck (M:=1000000) l.d1 l.d2 U.f1 U.f2;obtain⟨_,_,_,_,_,_,_,_,ap,ak,f1,f2⟩:=U;obtain⟨_,_,_,_,_,_,_,_,dH,dI,dJ,dK⟩:=l;go_in
 go_wp2_with fail
 refine aw (nf P J K L E T e f _ (by omega) (by omega) (by omega) (by omega) (by omega) (by omega)) fun bT bo=> ?_;have bg:bT.heap[w.heap.size]? =D (Y #[B o p, B o q, B o r, B o s, B o e, B o f] 64 (0,0)):=aG (aW (aW (dE (Y #[B o p, B o q, B o r, B o s, B o e, B o f] 64) (by first | rfl | (simp;done) | (simp;omega))) _) _) bo (by first | (simp;done) | (simp;omega));have bh:bT.heap[w.heap.size+1]? =D (Y #[B o P, B o J, B o K, B o L, B o E, B o T] 64 (0,0)):=aG (aW (dE (Y #[B o P, B o J, B o K, B o L, B o E, B o T] 64) (by first | rfl | (simp;done) | (simp;omega))) _) bo (by first | (simp;done) | (simp;omega));have b6:bT.heap[w.heap.size+1+1]? =D (Y #[B o 0, B o 0, B o 0, B o 0, B o 0, B o 0] 64 (0,0)):=aG (dE (Y #[B o 0, B o 0, B o 0, B o 0, B o 0, B o 0] 64) (by first | rfl | (simp;done) | (simp;omega))) bo (by first | (simp;done) | (simp;omega))
 have bs:Below w.heap.size w bT:=ax (aN (aN (aN aX _) _) _) bo;clear bo;obtain⟨aH,aI,aJ,aL,aM,aO⟩:=cx bg;have be:=br bg;have bj:=am bg;obtain⟨aP,aS,aT,aU,aY,aZ⟩:=cx bh;have bf:=br bh;have bk:=am bh;obtain⟨c9,da,db,dc,dd,de⟩:=cx b6;have dU:=br b6;have dG:=am b6;go_wp2;refine cT (v:= aq #[B o (P*p+J*r), B o (P*q+J*s), B o (K*p+L*r), B o (K*q+L*s), B o (P*e+J*f+E), B o (K*e+L*f+T)]) (by simp[results,Tryz.results18,go_sem,c9,da,db,dc,dd,de,wq,World.size_setCell,dG]) rfl ⟨rfl, ?_⟩;exact aN (rR bs _ (by omega) _ _ _ _ _ _) _
theorem kE{t:TypeId}{a b:Value}(h:w.heap[g]? =D (Y #[a,b] t (0,0)))(u v:Value):((w.setCell ⟨g,0,F⟩ u).setCell ⟨g,1,F⟩ v).heap[g]? =D (Y #[u,v] t (0,0)):=by
 have h1:=bq (bq h 0 u) 1 v;simpa using h1
theorem eM(h:w.heap[b]? =D af)(bp:b≠g)(x y:Value):((w.setCell ⟨g,0,F⟩ x).setCell ⟨g,1,F⟩ y).heap[b]? =D af:=eV (eV h bp _) bp _
theorem c7{a:Addr}{v:Value}(h:w.drew.cell? a=D v)(af:Obj):(w.alloc af).drew.cell? a=D v:=(show(w.alloc af).cell? a=D v from aD (show w.cell? a=D v from h) af)
theorem kh{v:ac}{an:Nat}(h:Below an v w.drew)(aK:an<=w.heap.size)(af:Obj):Below an v (w.alloc af).drew:=h.alloc aK af
theorem dj(h:w.drew.heap[g]? =D af)(bX:Obj):(w.alloc bX).drew.heap[g]? =D af:=aW (w:=w) h bX
theorem m8(w:ac)(af:Obj):(w.alloc af).drew.heap[w.heap.size]? =D af:=aQ w af
theorem dW{bX:Obj}(h:(w.alloc af).cell? ⟨b,j,F⟩=D u)(l:b < w.heap.size):(w.alloc bX).cell? ⟨b,j,F⟩=D u:=by
 rw[wq _ _ _ l] at h |-;exact h
theorem dT(h:w.cell? ⟨b,j,F⟩=D u)(bp:g≠b)(x y:Value):((w.setCell ⟨g,0,F⟩ x).setCell ⟨g,1,F⟩ y).cell? ⟨b,j,F⟩=D u:=fN (fN h bp) bp
theorem sA(p q r s e f P J K L E T:Int)(w:ac)(U:jy p q r s e f)(l:jy P J K L E T):
  bB aj 37 #[aq #[B o p, B o q, B o r, B o s, B o e, B o f], aq #[B o P, B o J, B o K, B o L, B o E, B o T]] w fun ah Z=>ah= .returned (aq #[B o (P*p+J*r), B o (P*q+J*s), B o (K*p+L*r), B o (K*q+L*s), B o (P*e+J*f+E), B o (K*e+L*f+T)])/\Below w.heap.size w Z:=by
 obtain⟨a0,cA⟩:∃a:Int,a=p*0+q*0+e:=⟨_,rfl⟩;have bC:=R cA;clear cA;obtain⟨a4,cD⟩:∃a:Int,a=r*0+s*0+f:=⟨_,rfl⟩;have bF:=R cD;clear cD;obtain⟨av,cG⟩:∃a:Int,a=P*a0+J*a4+E:=⟨_,rfl⟩;have bI:=R cG;clear cG;obtain⟨ay,cJ⟩:∃a:Int,a=K*a0+L*a4+T:=⟨_,rfl⟩;have bL:=R cJ;clear cJ;obtain⟨a1,cB⟩:∃a:Int,a=p*1+q*0+e:=⟨_,rfl⟩;have bD:=R cB;clear cB;obtain⟨a5,cE⟩:∃a:Int,a=r*1+s*0+f:=⟨_,rfl⟩;have bG:=R cE;clear cE;obtain⟨a8,cH⟩:∃a:Int,a=P*a1+J*a5+E:=⟨_,rfl⟩;have bJ:=R cH;clear cH;obtain⟨a9,cK⟩:∃a:Int,a=K*a1+L*a5+T:=⟨_,rfl⟩;have bM:=R cK;clear cK;obtain⟨a3,cC⟩:∃a:Int,a=p*0+q*1+e:=⟨_,rfl⟩
 have bE:=R cC;clear cC;obtain⟨a6,cF⟩:∃a:Int,a=r*0+s*1+f:=⟨_,rfl⟩;have bH:=R cF;clear cF;obtain⟨bl,cI⟩:∃a:Int,a=P*a3+J*a6+E:=⟨_,rfl⟩;have bK:=R cI;clear cI;obtain⟨bm,cL⟩:∃a:Int,a=K*a3+L*a6+T:=⟨_,rfl⟩;have bN:=R cL;clear cL;have c6:Hid (a8-av=P*p+J*r/\bl-av=P*q+J*s/\a9-ay=K*p+L*r/\bm-ay=K*q+L*s/\av=P*e+J*f+E/\ay=K*e+L*f+T):=R (by
  rw[bI.out,bJ.out,bK.out,bL.out,bM.out,bN.out,bC.out,bD.out,bE.out,bF.out,bG.out,bH.out];simp only[Int.mul_add,Int.mul_zero,Int.mul_one,Int.zero_add,Int.add_zero];refine⟨?_, ?_, ?_, ?_, ?_, ?_⟩ <;> first | trivial | omega)
 have c8:(-2000000<=a0/\a0<=2000000)/\(-2000000<=a1/\a1<=2000000)/\(-2000000<=a3/\a3<=2000000)/\(-2000000<=a4/\a4<=2000000)/\(-2000000<=a5/\a5<=2000000)/\(-2000000<=a6/\a6<=2000000):=by
  obtain⟨_,_,_,_,_,_,_,_,_,_,_,_⟩:=U;rw[bC.out,bD.out,bE.out,bF.out,bG.out,bH.out];omega
 have dp:=ck (a:=P) (x:=a0) (M:=2000000) l.ao l.a2 (by omega) (by omega);have dq:=ck (a:=J) (x:=a4) (M:=2000000) l.b1 l.aC (by omega) (by omega);have dr:=ck (a:=K) (x:=a0) (M:=2000000) l.c1 l.c2 (by omega) (by omega);have dt:=ck (a:=L) (x:=a4) (M:=2000000) l.d1 l.d2 (by omega) (by omega);have du:=ck (a:=P) (x:=a1) (M:=2000000) l.ao l.a2 (by omega) (by omega);have dv:=ck (a:=J) (x:=a5) (M:=2000000) l.b1 l.aC (by omega) (by omega);have dw:=ck (a:=K) (x:=a1) (M:=2000000) l.c1 l.c2 (by omega) (by omega);have dx:=ck (a:=L) (x:=a5) (M:=2000000) l.d1 l.d2 (by omega) (by omega);have dy:=ck (a:=P) (x:=a3) (M:=2000000) l.ao l.a2 (by omega) (by omega);have dz:=ck (a:=J) (x:=a6) (M:=2000000) l.b1 l.aC (by omega) (by omega);have dA:=ck (a:=K) (x:=a3) (M:=2000000) l.c1 l.c2 (by omega) (by omega)
 have dB:=ck (a:=L) (x:=a6) (M:=2000000) l.d1 l.d2 (by omega) (by omega);have bP: -4000000<=E/\E<=4000000:=by have:=l.ap;have:=l.ak;omega
 have bQ: -4000000<=T/\T<=4000000:=by have:=l.f1;have:=l.f2;omega
 have bR: -4000000<=e/\e<=4000000:=by have:=U.ap;have:=U.ak;omega
 have bS: -4000000<=f/\f<=4000000:=by have:=U.f1;have:=U.f2;omega
 have dL:(-5000000<=av/\av<=5000000)/\(-5000000<=a8/\a8<=5000000)/\(-5000000<=bl/\bl<=5000000)/\(-5000000<=ay/\ay<=5000000)/\(-5000000<=a9/\a9<=5000000)/\(-5000000<=bm/\bm<=5000000):=by
  have:=l.ap;have:=l.ak;have:=l.f1;have:=l.f2;rw[bI.out,bJ.out,bK.out,bL.out,bM.out,bN.out];omega
 have cq:Hid (∀w:ac,bB aj 78 #[aq #[B o p, B o q, B o r, B o s, B o e, B o f],bu 0 0] w fun ah Z=>ah= .returned (bu a0 a4)/\Below w.heap.size w Z):=R (fun w=>by
  obtain⟨_,_,_,_,_,_,_,_,_,_,_,_⟩:=U;have h:=jd p q r s e f 0 0 w (by omega) (by omega) (by omega) (by omega) bR bS;rw[<-bC.out,<-bF.out] at h;exact h)
 have cu:Hid (∀w:ac,bB aj 78 #[aq #[B o P, B o J, B o K, B o L, B o E, B o T],bu a0 a4] w fun ah Z=>ah= .returned (bu av ay)/\Below w.heap.size w Z):=R (fun w=>by
  have h:=jd P J K L E T a0 a4 w (by omega) (by omega) (by omega) (by omega) bP bQ;rw[<-bI.out,<-bL.out] at h;exact h)
 have cr:Hid (∀w:ac,bB aj 78 #[aq #[B o p, B o q, B o r, B o s, B o e, B o f],bu 1 0] w fun ah Z=>ah= .returned (bu a1 a5)/\Below w.heap.size w Z):=R (fun w=>by
  obtain⟨_,_,_,_,_,_,_,_,_,_,_,_⟩:=U;have h:=jd p q r s e f 1 0 w (by omega) (by omega) (by omega) (by omega) bR bS;rw[<-bD.out,<-bG.out] at h;exact h)
 have cv:Hid (∀w:ac,bB aj 78 #[aq #[B o P, B o J, B o K, B o L, B o E, B o T],bu a1 a5] w fun ah Z=>ah= .returned (bu a8 a9)/\Below w.heap.size w Z):=R (fun w=>by
  have h:=jd P J K L E T a1 a5 w (by omega) (by omega) (by omega) (by omega) bP bQ;rw[<-bJ.out,<-bM.out] at h;exact h)
 have ct:Hid (∀w:ac,bB aj 78 #[aq #[B o p, B o q, B o r, B o s, B o e, B o f],bu 0 1] w fun ah Z=>ah= .returned (bu a3 a6)/\Below w.heap.size w Z):=R (fun w=>by
  obtain⟨_,_,_,_,_,_,_,_,_,_,_,_⟩:=U;have h:=jd p q r s e f 0 1 w (by omega) (by omega) (by omega) (by omega) bR bS;rw[<-bE.out,<-bH.out] at h;exact h)
 have cw:Hid (∀w:ac,bB aj 78 #[aq #[B o P, B o J, B o K, B o L, B o E, B o T],bu a3 a6] w fun ah Z=>ah= .returned (bu bl bm)/\Below w.heap.size w Z):=R (fun w=>by
  have h:=jd P J K L E T a3 a6 w (by omega) (by omega) (by omega) (by omega) bP bQ;rw[<-bK.out,<-bN.out] at h;exact h)
 clear c8 bP bQ bR bS U l dp dq dr dt du dv dw dx dy dz dA dB;clear bC bF bI bL bD bG bJ bM bE bH bK bN;go_in;go_upto_region 1 with fail
 have bg:((((w.alloc (Y #[B o p, B o q, B o r, B o s, B o e, B o f] 64)).alloc (Y #[B o P, B o J, B o K, B o L, B o E, B o T] 64)).alloc (Y #[B o 0, B o 0, B o 0, B o 0, B o 0, B o 0] 64))).heap[w.heap.size]? =D (Y #[B o p, B o q, B o r, B o s, B o e, B o f] 64 (0,0)):=(aW (aW (dE (Y #[B o p, B o q, B o r, B o s, B o e, B o f] 64) (by first | rfl | (simp;done) | (simp;omega))) _) _);have bh:((((w.alloc (Y #[B o p, B o q, B o r, B o s, B o e, B o f] 64)).alloc (Y #[B o P, B o J, B o K, B o L, B o E, B o T] 64)).alloc (Y #[B o 0, B o 0, B o 0, B o 0, B o 0, B o 0] 64))).heap[w.heap.size+1]? =D (Y #[B o P, B o J, B o K, B o L, B o E, B o T] 64 (0,0)):=(aW (dE (Y #[B o P, B o J, B o K, B o L, B o E, B o T] 64) (by first | rfl | (simp;done) | (simp;omega))) _)
 have cg:((((w.alloc (Y #[B o p, B o q, B o r, B o s, B o e, B o f] 64)).alloc (Y #[B o P, B o J, B o K, B o L, B o E, B o T] 64)).alloc (Y #[B o 0, B o 0, B o 0, B o 0, B o 0, B o 0] 64))).heap[w.heap.size+1+1]? =D (Y #[B o 0, B o 0, B o 0, B o 0, B o 0, B o 0] 64 (0,0)):=(dE (Y #[B o 0, B o 0, B o 0, B o 0, B o 0, B o 0] 64) (by first | rfl | (simp;done) | (simp;omega)));have bs:Below w.heap.size w ((((w.alloc (Y #[B o p, B o q, B o r, B o s, B o e, B o f] 64)).alloc (Y #[B o P, B o J, B o K, B o L, B o E, B o T] 64)).alloc (Y #[B o 0, B o 0, B o 0, B o 0, B o 0, B o 0] 64))):=(aN (aN (aN aX _) _) _)
 go_cut [5] from 8 to 12 (fun dC al=>∃g:Nat,dC= ad (D ⟨g,0,F⟩)/\al.heap[g]? =D (Y #[B o av, B o ay] 40 (0,0))/\al.heap[w.heap.size]? =D (Y #[B o p, B o q, B o r, B o s, B o e, B o f] 64 (0,0))/\al.heap[w.heap.size+1]? =D (Y #[B o P, B o J, B o K, B o L, B o E, B o T] 64 (0,0))/\al.heap[w.heap.size+1+1]? =D (Y #[B o 0, B o 0, B o 0, B o 0, B o 0, B o 0] 64 (0,0))/\Below w.heap.size w al)
 case first=>
  have bv:((((((w.alloc (Y #[B o p, B o q, B o r, B o s, B o e, B o f] 64)).alloc (Y #[B o P, B o J, B o K, B o L, B o E, B o T] 64)).alloc (Y #[B o 0, B o 0, B o 0, B o 0, B o 0, B o 0] 64)))).drew).heap[w.heap.size]? =D (Y #[B o p, B o q, B o r, B o s, B o e, B o f] 64 (0,0)):=bg;have bz:((((((w.alloc (Y #[B o p, B o q, B o r, B o s, B o e, B o f] 64)).alloc (Y #[B o P, B o J, B o K, B o L, B o E, B o T] 64)).alloc (Y #[B o 0, B o 0, B o 0, B o 0, B o 0, B o 0] 64)))).drew).heap[w.heap.size+1]? =D (Y #[B o P, B o J, B o K, B o L, B o E, B o T] 64 (0,0)):=bh
  have cZ:((((((w.alloc (Y #[B o p, B o q, B o r, B o s, B o e, B o f] 64)).alloc (Y #[B o P, B o J, B o K, B o L, B o E, B o T] 64)).alloc (Y #[B o 0, B o 0, B o 0, B o 0, B o 0, B o 0] 64)))).drew).heap[w.heap.size+1+1]? =D (Y #[B o 0, B o 0, B o 0, B o 0, B o 0, B o 0] 64 (0,0)):=cg;have cN:Below w.heap.size w ((((((w.alloc (Y #[B o p, B o q, B o r, B o s, B o e, B o f] 64)).alloc (Y #[B o P, B o J, B o K, B o L, B o E, B o T] 64)).alloc (Y #[B o 0, B o 0, B o 0, B o 0, B o 0, B o 0] 64)))).drew):=(bs).drew;clear bg bh cg bs;obtain⟨aH,aI,aJ,aL,aM,aO⟩:=cx bv
  have be:=br bv;have bj:=am bv;obtain⟨aP,aS,aT,aU,aY,aZ⟩:=cx bz;have bf:=br bz;have bk:=am bz;have bn:=a7 aH (a7 aI (a7 aJ (a7 aL (a7 aM (a7 aO (a7 aP (a7 aS (a7 aT (a7 aU (a7 aY (a7 aZ cN)))))))))));clear aH aI aJ aL aM aO aP aS aT aU aY aZ be bj bf bk;have aE:=am bv;have z:=bv;have cR:=am bz;have G:=bz;have aF:=am cZ;have I:=cZ
  (try simp only[nG] at aE cR aF)
  have N:=cN;have az:=N.size;simp only[nG] at az
  go_region_held3 (fun Z=>Z.cell? ⟨w.heap.size,0,F⟩=D (B o p)/\Z.cell? ⟨w.heap.size,1,F⟩=D (B o q)/\Z.cell? ⟨w.heap.size,2,F⟩=D (B o r)/\Z.cell? ⟨w.heap.size,3,F⟩=D (B o s)/\Z.cell? ⟨w.heap.size,4,F⟩=D (B o e)/\Z.cell? ⟨w.heap.size,5,F⟩=D (B o f)/\Z.cell? ⟨w.heap.size+1,0,F⟩=D (B o P)/\Z.cell? ⟨w.heap.size+1,1,F⟩=D (B o J)/\Z.cell? ⟨w.heap.size+1,2,F⟩=D (B o K)/\Z.cell? ⟨w.heap.size+1,3,F⟩=D (B o L)/\Z.cell? ⟨w.heap.size+1,4,F⟩=D (B o E)/\Z.cell? ⟨w.heap.size+1,5,F⟩=D (B o T)/\Below w.heap.size w Z)
   (first
    | with_reducible exact bn
    | (go_split_ands;with_reducible exact⟨aD ‹_› _,aD ‹_› _,aD ‹_› _,aD ‹_› _,aD ‹_› _,aD ‹_› _,aD ‹_› _,aD ‹_› _,aD ‹_› _,aD ‹_› _,aD ‹_› _,aD ‹_› _,aN ‹_› _⟩)
    | (go_split_ands;with_reducible exact⟨c7 ‹_› _,c7 ‹_› _,c7 ‹_› _,c7 ‹_› _,c7 ‹_› _,c7 ‹_› _,c7 ‹_› _,c7 ‹_› _,c7 ‹_› _,c7 ‹_› _,c7 ‹_› _,c7 ‹_› _,kh ‹_› az _⟩)
    | (go_split_ands;exact⟨dW ‹_› (by omega),dW ‹_› (by omega),dW ‹_› (by omega),dW ‹_› (by omega),dW ‹_› (by omega),dW ‹_› (by omega),dW ‹_› (by omega),dW ‹_› (by omega),dW ‹_› (by omega),dW ‹_› (by omega),dW ‹_› (by omega),dW ‹_› (by omega),aN N _⟩)
    | (go_split_ands;exact⟨dT ‹_› (by omega) _ _,dT ‹_› (by omega) _ _,dT ‹_› (by omega) _ _,dT ‹_› (by omega) _ _,dT ‹_› (by omega) _ _,dT ‹_› (by omega) _ _,dT ‹_› (by omega) _ _,dT ‹_› (by omega) _ _,dT ‹_› (by omega) _ _,dT ‹_› (by omega) _ _,dT ‹_› (by omega) _ _,dT ‹_› (by omega) _ _,mf ‹_› _ (by omega) _ _⟩)
    | (go_split_ands;with_reducible exact⟨V ‹_› i,V ‹_› i,V ‹_› i,V ‹_› i,V ‹_› i,V ‹_› i,V ‹_› i,V ‹_› i,V ‹_› i,V ‹_› i,V ‹_› i,V ‹_› i,ax ‹_› i⟩))
   (first
    | ((with_reducible refine(cq.out _).mono ?_);rintro ah wc ⟨aA,i⟩;subst aA;(first | (have z:=aG z i (am z)) | (have z:=aG (aW z _) i (am (aW z _))) | (have z:=aG (dj z _) i (am (dj z _))));have aE:=am z;(first | (have G:=aG G i (am G)) | (have G:=aG (aW G _) i (am (aW G _))) | (have G:=aG (dj G _) i (am (dj G _))));have cR:=am G;(first | (have I:=aG I i (am I)) | (have I:=aG (aW I _) i (am (aW I _))) | (have I:=aG (dj I _) i (am (dj I _))));have aF:=am I;(first | (have N:=ax N i) | (have N:=ax (aN N _) i) | (have N:=ax (kh N az _) i));(first | (have k:=aG k i (am k);have aa:=aB k 0;have ae:=aB k 1;simp only[cP,cU,cO] at aa ae;have ar:=br k;have au:=am k) | (have k:=aG (aQ _ _) i (by simp);have aa:=aB k 0;have ae:=aB k 1;simp only[cP,cU,cO] at aa ae;have ar:=br k;have au:=am k) | (have k:=aG (m8 _ _) i (by simp);(try simp only[em] at k);have aa:=aB k 0;have ae:=aB k 1;simp only[cP,cU,cO] at aa ae;have ar:=br k;have au:=am k) | skip))
    | ((with_reducible refine(cu.out _).mono ?_);rintro ah c3 ⟨aA,i⟩;subst aA;(first | (have z:=aG z i (am z)) | (have z:=aG (aW z _) i (am (aW z _))) | (have z:=aG (dj z _) i (am (dj z _))));have aE:=am z;(first | (have G:=aG G i (am G)) | (have G:=aG (aW G _) i (am (aW G _))) | (have G:=aG (dj G _) i (am (dj G _))));have cR:=am G;(first | (have I:=aG I i (am I)) | (have I:=aG (aW I _) i (am (aW I _))) | (have I:=aG (dj I _) i (am (dj I _))));have aF:=am I;(first | (have N:=ax N i) | (have N:=ax (aN N _) i) | (have N:=ax (kh N az _) i));(first | (have k:=aG k i (am k);have aa:=aB k 0;have ae:=aB k 1;simp only[cP,cU,cO] at aa ae;have ar:=br k;have au:=am k) | (have k:=aG (aQ _ _) i (by simp);have aa:=aB k 0;have ae:=aB k 1;simp only[cP,cU,cO] at aa ae;have ar:=br k;have au:=am k) | (have k:=aG (m8 _ _) i (by simp);(try simp only[em] at k);have aa:=aB k 0;have ae:=aB k 1;simp only[cP,cU,cO] at aa ae;have ar:=br k;have au:=am k) | skip)))
  all_goals (go_wp2_with fail;go_meet;first | (exact⟨_,rfl,dE _ rfl,aW z _,aW G _,aW I _,aN N _⟩) | (exact⟨_,rfl,kE k _ _,eM z (by omega) _ _,eM G (by omega) _ _,eM I (by omega) _ _,mf N _ (by omega) _ _⟩))
 case rest=>
 obtain⟨bO,rfl,b7,bW,b3,ch,bU⟩:=hcut;clear cq cu bg bh cg bs;go_upto_region 2 with fail
 go_cut [6] from 13 to 17 (fun dD al=>∃g:Nat,dD= ad (D ⟨g,0,F⟩)/\al.heap[g]? =D (Y #[B o a8, B o a9] 40 (0,0))/\al.heap[bO]? =D (Y #[B o av, B o ay] 40 (0,0))/\al.heap[w.heap.size]? =D (Y #[B o p, B o q, B o r, B o s, B o e, B o f] 64 (0,0))/\al.heap[w.heap.size+1]? =D (Y #[B o P, B o J, B o K, B o L, B o E, B o T] 64 (0,0))/\al.heap[w.heap.size+1+1]? =D (Y #[B o 0, B o 0, B o 0, B o 0, B o 0, B o 0] 64 (0,0))/\Below w.heap.size w al)
 case first=>
  have cV:(wc.drew).heap[bO]? =D (Y #[B o av, B o ay] 40 (0,0)):=b7;have bt:(wc.drew).heap[w.heap.size]? =D (Y #[B o p, B o q, B o r, B o s, B o e, B o f] 64 (0,0)):=bW;have bx:(wc.drew).heap[w.heap.size+1]? =D (Y #[B o P, B o J, B o K, B o L, B o E, B o T] 64 (0,0)):=b3;have cY:(wc.drew).heap[w.heap.size+1+1]? =D (Y #[B o 0, B o 0, B o 0, B o 0, B o 0, B o 0] 64 (0,0)):=ch;have cM:Below w.heap.size w (wc.drew):=(bU).drew;clear b7 bW b3 ch bU;obtain⟨aH,aI,aJ,aL,aM,aO⟩:=cx bt;have be:=br bt;have bj:=am bt;obtain⟨aP,aS,aT,aU,aY,aZ⟩:=cx bx
  have bf:=br bx;have bk:=am bx;have bn:=a7 aH (a7 aI (a7 aJ (a7 aL (a7 aM (a7 aO (a7 aP (a7 aS (a7 aT (a7 aU (a7 aY (a7 aZ cM)))))))))));clear aH aI aJ aL aM aO aP aS aT aU aY aZ be bj bf bk;have bi:=am cV;have O:=cV;have aE:=am bt;have z:=bt;have cR:=am bx;have G:=bx;have aF:=am cY;have I:=cY
  (try simp only[nG] at bi aE cR aF)
  have N:=cM;have az:=N.size;simp only[nG] at az
  go_region_held3 (fun Z=>Z.cell? ⟨w.heap.size,0,F⟩=D (B o p)/\Z.cell? ⟨w.heap.size,1,F⟩=D (B o q)/\Z.cell? ⟨w.heap.size,2,F⟩=D (B o r)/\Z.cell? ⟨w.heap.size,3,F⟩=D (B o s)/\Z.cell? ⟨w.heap.size,4,F⟩=D (B o e)/\Z.cell? ⟨w.heap.size,5,F⟩=D (B o f)/\Z.cell? ⟨w.heap.size+1,0,F⟩=D (B o P)/\Z.cell? ⟨w.heap.size+1,1,F⟩=D (B o J)/\Z.cell? ⟨w.heap.size+1,2,F⟩=D (B o K)/\Z.cell? ⟨w.heap.size+1,3,F⟩=D (B o L)/\Z.cell? ⟨w.heap.size+1,4,F⟩=D (B o E)/\Z.cell? ⟨w.heap.size+1,5,F⟩=D (B o T)/\Below w.heap.size w Z)
   (first
    | with_reducible exact bn
    | (go_split_ands;with_reducible exact⟨aD ‹_› _,aD ‹_› _,aD ‹_› _,aD ‹_› _,aD ‹_› _,aD ‹_› _,aD ‹_› _,aD ‹_› _,aD ‹_› _,aD ‹_› _,aD ‹_› _,aD ‹_› _,aN ‹_› _⟩)
    | (go_split_ands;with_reducible exact⟨c7 ‹_› _,c7 ‹_› _,c7 ‹_› _,c7 ‹_› _,c7 ‹_› _,c7 ‹_› _,c7 ‹_› _,c7 ‹_› _,c7 ‹_› _,c7 ‹_› _,c7 ‹_› _,c7 ‹_› _,kh ‹_› az _⟩)
    | (go_split_ands;exact⟨dW ‹_› (by omega),dW ‹_› (by omega),dW ‹_› (by omega),dW ‹_› (by omega),dW ‹_› (by omega),dW ‹_› (by omega),dW ‹_› (by omega),dW ‹_› (by omega),dW ‹_› (by omega),dW ‹_› (by omega),dW ‹_› (by omega),dW ‹_› (by omega),aN N _⟩)
    | (go_split_ands;exact⟨dT ‹_› (by omega) _ _,dT ‹_› (by omega) _ _,dT ‹_› (by omega) _ _,dT ‹_› (by omega) _ _,dT ‹_› (by omega) _ _,dT ‹_› (by omega) _ _,dT ‹_› (by omega) _ _,dT ‹_› (by omega) _ _,dT ‹_› (by omega) _ _,dT ‹_› (by omega) _ _,dT ‹_› (by omega) _ _,dT ‹_› (by omega) _ _,mf ‹_› _ (by omega) _ _⟩)
    | (go_split_ands;with_reducible exact⟨V ‹_› i,V ‹_› i,V ‹_› i,V ‹_› i,V ‹_› i,V ‹_› i,V ‹_› i,V ‹_› i,V ‹_› i,V ‹_› i,V ‹_› i,V ‹_› i,ax ‹_› i⟩))
   (first
    | ((with_reducible refine(cr.out _).mono ?_);rintro ah wc ⟨aA,i⟩;subst aA;(first | (have O:=aG O i (am O)) | (have O:=aG (aW O _) i (am (aW O _))) | (have O:=aG (dj O _) i (am (dj O _))));have bi:=am O;(first | (have z:=aG z i (am z)) | (have z:=aG (aW z _) i (am (aW z _))) | (have z:=aG (dj z _) i (am (dj z _))));have aE:=am z;(first | (have G:=aG G i (am G)) | (have G:=aG (aW G _) i (am (aW G _))) | (have G:=aG (dj G _) i (am (dj G _))));have cR:=am G;(first | (have I:=aG I i (am I)) | (have I:=aG (aW I _) i (am (aW I _))) | (have I:=aG (dj I _) i (am (dj I _))));have aF:=am I;(first | (have N:=ax N i) | (have N:=ax (aN N _) i) | (have N:=ax (kh N az _) i));(first | (have k:=aG k i (am k);have aa:=aB k 0;have ae:=aB k 1;simp only[cP,cU,cO] at aa ae;have ar:=br k;have au:=am k) | (have k:=aG (aQ _ _) i (by simp);have aa:=aB k 0;have ae:=aB k 1;simp only[cP,cU,cO] at aa ae;have ar:=br k;have au:=am k) | (have k:=aG (m8 _ _) i (by simp);(try simp only[em] at k);have aa:=aB k 0;have ae:=aB k 1;simp only[cP,cU,cO] at aa ae;have ar:=br k;have au:=am k) | skip))
    | ((with_reducible refine(cv.out _).mono ?_);rintro ah c3 ⟨aA,i⟩;subst aA;(first | (have O:=aG O i (am O)) | (have O:=aG (aW O _) i (am (aW O _))) | (have O:=aG (dj O _) i (am (dj O _))));have bi:=am O;(first | (have z:=aG z i (am z)) | (have z:=aG (aW z _) i (am (aW z _))) | (have z:=aG (dj z _) i (am (dj z _))));have aE:=am z;(first | (have G:=aG G i (am G)) | (have G:=aG (aW G _) i (am (aW G _))) | (have G:=aG (dj G _) i (am (dj G _))));have cR:=am G;(first | (have I:=aG I i (am I)) | (have I:=aG (aW I _) i (am (aW I _))) | (have I:=aG (dj I _) i (am (dj I _))));have aF:=am I;(first | (have N:=ax N i) | (have N:=ax (aN N _) i) | (have N:=ax (kh N az _) i));(first | (have k:=aG k i (am k);have aa:=aB k 0;have ae:=aB k 1;simp only[cP,cU,cO] at aa ae;have ar:=br k;have au:=am k) | (have k:=aG (aQ _ _) i (by simp);have aa:=aB k 0;have ae:=aB k 1;simp only[cP,cU,cO] at aa ae;have ar:=br k;have au:=am k) | (have k:=aG (m8 _ _) i (by simp);(try simp only[em] at k);have aa:=aB k 0;have ae:=aB k 1;simp only[cP,cU,cO] at aa ae;have ar:=br k;have au:=am k) | skip)))
  all_goals (go_wp2_with fail;go_meet;first | (exact⟨_,rfl,dE _ rfl,aW O _,aW z _,aW G _,aW I _,aN N _⟩) | (exact⟨_,rfl,kE k _ _,eM O (by omega) _ _,eM z (by omega) _ _,eM G (by omega) _ _,eM I (by omega) _ _,mf N _ (by omega) _ _⟩))
 case rest=>
 obtain⟨cy,rfl,cb,b8,bY,b4,ci,bV⟩:=hcut;clear cr cv b7 bW b3 ch bU;go_upto_region 3 with fail
 go_cut [7] from 18 to 22 (fun dF al=>∃g:Nat,dF= ad (D ⟨g,0,F⟩)/\al.heap[g]? =D (Y #[B o bl, B o bm] 40 (0,0))/\al.heap[cy]? =D (Y #[B o a8, B o a9] 40 (0,0))/\al.heap[bO]? =D (Y #[B o av, B o ay] 40 (0,0))/\al.heap[w.heap.size]? =D (Y #[B o p, B o q, B o r, B o s, B o e, B o f] 64 (0,0))/\al.heap[w.heap.size+1]? =D (Y #[B o P, B o J, B o K, B o L, B o E, B o T] 64 (0,0))/\al.heap[w.heap.size+1+1]? =D (Y #[B o 0, B o 0, B o 0, B o 0, B o 0, B o 0] 64 (0,0))/\Below w.heap.size w al)
 case first=>
  have cX:(wc.drew).heap[cy]? =D (Y #[B o a8, B o a9] 40 (0,0)):=cb;have cW:(wc.drew).heap[bO]? =D (Y #[B o av, B o ay] 40 (0,0)):=b8;have bw:(wc.drew).heap[w.heap.size]? =D (Y #[B o p, B o q, B o r, B o s, B o e, B o f] 64 (0,0)):=bY;have bA:(wc.drew).heap[w.heap.size+1]? =D (Y #[B o P, B o J, B o K, B o L, B o E, B o T] 64 (0,0)):=b4;have c0:(wc.drew).heap[w.heap.size+1+1]? =D (Y #[B o 0, B o 0, B o 0, B o 0, B o 0, B o 0] 64 (0,0)):=ci;have cQ:Below w.heap.size w (wc.drew):=(bV).drew;clear cb b8 bY b4 ci bV;obtain⟨aH,aI,aJ,aL,aM,aO⟩:=cx bw;have be:=br bw
  have bj:=am bw;obtain⟨aP,aS,aT,aU,aY,aZ⟩:=cx bA;have bf:=br bA;have bk:=am bA;have bn:=a7 aH (a7 aI (a7 aJ (a7 aL (a7 aM (a7 aO (a7 aP (a7 aS (a7 aT (a7 aU (a7 aY (a7 aZ cQ)))))))))));clear aH aI aJ aL aM aO aP aS aT aU aY aZ be bj bf bk;have cl:=am cX;have ai:=cX;have bi:=am cW;have O:=cW;have aE:=am bw;have z:=bw;have cR:=am bA;have G:=bA;have aF:=am c0;have I:=c0
  (try simp only[nG] at cl bi aE cR aF)
  have N:=cQ;have az:=N.size;simp only[nG] at az
  go_region_held3 (fun Z=>Z.cell? ⟨w.heap.size,0,F⟩=D (B o p)/\Z.cell? ⟨w.heap.size,1,F⟩=D (B o q)/\Z.cell? ⟨w.heap.size,2,F⟩=D (B o r)/\Z.cell? ⟨w.heap.size,3,F⟩=D (B o s)/\Z.cell? ⟨w.heap.size,4,F⟩=D (B o e)/\Z.cell? ⟨w.heap.size,5,F⟩=D (B o f)/\Z.cell? ⟨w.heap.size+1,0,F⟩=D (B o P)/\Z.cell? ⟨w.heap.size+1,1,F⟩=D (B o J)/\Z.cell? ⟨w.heap.size+1,2,F⟩=D (B o K)/\Z.cell? ⟨w.heap.size+1,3,F⟩=D (B o L)/\Z.cell? ⟨w.heap.size+1,4,F⟩=D (B o E)/\Z.cell? ⟨w.heap.size+1,5,F⟩=D (B o T)/\Below w.heap.size w Z)
   (first
    | with_reducible exact bn
    | (go_split_ands;with_reducible exact⟨aD ‹_› _,aD ‹_› _,aD ‹_› _,aD ‹_› _,aD ‹_› _,aD ‹_› _,aD ‹_› _,aD ‹_› _,aD ‹_› _,aD ‹_› _,aD ‹_› _,aD ‹_› _,aN ‹_› _⟩)
    | (go_split_ands;with_reducible exact⟨c7 ‹_› _,c7 ‹_› _,c7 ‹_› _,c7 ‹_› _,c7 ‹_› _,c7 ‹_› _,c7 ‹_› _,c7 ‹_› _,c7 ‹_› _,c7 ‹_› _,c7 ‹_› _,c7 ‹_› _,kh ‹_› az _⟩)
    | (go_split_ands;exact⟨dW ‹_› (by omega),dW ‹_› (by omega),dW ‹_› (by omega),dW ‹_› (by omega),dW ‹_› (by omega),dW ‹_› (by omega),dW ‹_› (by omega),dW ‹_› (by omega),dW ‹_› (by omega),dW ‹_› (by omega),dW ‹_› (by omega),dW ‹_› (by omega),aN N _⟩)
    | (go_split_ands;exact⟨dT ‹_› (by omega) _ _,dT ‹_› (by omega) _ _,dT ‹_› (by omega) _ _,dT ‹_› (by omega) _ _,dT ‹_› (by omega) _ _,dT ‹_› (by omega) _ _,dT ‹_› (by omega) _ _,dT ‹_› (by omega) _ _,dT ‹_› (by omega) _ _,dT ‹_› (by omega) _ _,dT ‹_› (by omega) _ _,dT ‹_› (by omega) _ _,mf ‹_› _ (by omega) _ _⟩)
    | (go_split_ands;with_reducible exact⟨V ‹_› i,V ‹_› i,V ‹_› i,V ‹_› i,V ‹_› i,V ‹_› i,V ‹_› i,V ‹_› i,V ‹_› i,V ‹_› i,V ‹_› i,V ‹_› i,ax ‹_› i⟩))
   (first
    | ((with_reducible refine(ct.out _).mono ?_);rintro ah wc ⟨aA,i⟩;subst aA;(first | (have ai:=aG ai i (am ai)) | (have ai:=aG (aW ai _) i (am (aW ai _))) | (have ai:=aG (dj ai _) i (am (dj ai _))));have cl:=am ai;(first | (have O:=aG O i (am O)) | (have O:=aG (aW O _) i (am (aW O _))) | (have O:=aG (dj O _) i (am (dj O _))));have bi:=am O;(first | (have z:=aG z i (am z)) | (have z:=aG (aW z _) i (am (aW z _))) | (have z:=aG (dj z _) i (am (dj z _))));have aE:=am z;(first | (have G:=aG G i (am G)) | (have G:=aG (aW G _) i (am (aW G _))) | (have G:=aG (dj G _) i (am (dj G _))));have cR:=am G;(first | (have I:=aG I i (am I)) | (have I:=aG (aW I _) i (am (aW I _))) | (have I:=aG (dj I _) i (am (dj I _))));have aF:=am I;(first | (have N:=ax N i) | (have N:=ax (aN N _) i) | (have N:=ax (kh N az _) i));(first | (have k:=aG k i (am k);have aa:=aB k 0;have ae:=aB k 1;simp only[cP,cU,cO] at aa ae;have ar:=br k;have au:=am k) | (have k:=aG (aQ _ _) i (by simp);have aa:=aB k 0;have ae:=aB k 1;simp only[cP,cU,cO] at aa ae;have ar:=br k;have au:=am k) | (have k:=aG (m8 _ _) i (by simp);(try simp only[em] at k);have aa:=aB k 0;have ae:=aB k 1;simp only[cP,cU,cO] at aa ae;have ar:=br k;have au:=am k) | skip))
    | ((with_reducible refine(cw.out _).mono ?_);rintro ah c3 ⟨aA,i⟩;subst aA;(first | (have ai:=aG ai i (am ai)) | (have ai:=aG (aW ai _) i (am (aW ai _))) | (have ai:=aG (dj ai _) i (am (dj ai _))));have cl:=am ai;(first | (have O:=aG O i (am O)) | (have O:=aG (aW O _) i (am (aW O _))) | (have O:=aG (dj O _) i (am (dj O _))));have bi:=am O;(first | (have z:=aG z i (am z)) | (have z:=aG (aW z _) i (am (aW z _))) | (have z:=aG (dj z _) i (am (dj z _))));have aE:=am z;(first | (have G:=aG G i (am G)) | (have G:=aG (aW G _) i (am (aW G _))) | (have G:=aG (dj G _) i (am (dj G _))));have cR:=am G;(first | (have I:=aG I i (am I)) | (have I:=aG (aW I _) i (am (aW I _))) | (have I:=aG (dj I _) i (am (dj I _))));have aF:=am I;(first | (have N:=ax N i) | (have N:=ax (aN N _) i) | (have N:=ax (kh N az _) i));(first | (have k:=aG k i (am k);have aa:=aB k 0;have ae:=aB k 1;simp only[cP,cU,cO] at aa ae;have ar:=br k;have au:=am k) | (have k:=aG (aQ _ _) i (by simp);have aa:=aB k 0;have ae:=aB k 1;simp only[cP,cU,cO] at aa ae;have ar:=br k;have au:=am k) | (have k:=aG (m8 _ _) i (by simp);(try simp only[em] at k);have aa:=aB k 0;have ae:=aB k 1;simp only[cP,cU,cO] at aa ae;have ar:=br k;have au:=am k) | skip)))
  all_goals (go_wp2_with fail;go_meet;first | (exact⟨_,rfl,dE _ rfl,aW ai _,aW O _,aW z _,aW G _,aW I _,aN N _⟩) | (exact⟨_,rfl,kE k _ _,eM ai (by omega) _ _,eM O (by omega) _ _,eM z (by omega) _ _,eM G (by omega) _ _,eM I (by omega) _ _,mf N _ (by omega) _ _⟩))
 case rest=>
 obtain⟨d5,rfl,cf,cd,ca,bZ,b5,cj,dn⟩:=hcut;clear ct cw cb b8 bY b4 ci bV;obtain⟨dR,dS⟩:=d7 cf;have dY:=br cf;have eh:=am cf;obtain⟨dP,dQ⟩:=d7 cd;have dX:=br cd;have eg:=am cd;obtain⟨dM,dN⟩:=d7 ca;have dV:=br ca;have ef:=am ca;obtain⟨aH,aI,aJ,aL,aM,aO⟩:=cx bZ;have be:=br bZ;have bj:=am bZ;obtain⟨aP,aS,aT,aU,aY,aZ⟩:=cx b5;have bf:=br b5;have bk:=am b5;obtain⟨df,dg,di,dk,dl,dm⟩:=cx cj;have d4:=br cj;have ei:=am cj
 go_wp2;have bc:=c6.out;rw[<-bc.1,<-bc.2.1,<-bc.2.2.1,<-bc.2.2.2.1,<-bc.2.2.2.2.1,<-bc.2.2.2.2.2];clear bc;refine cT (v:= aq #[B o (a8-av), B o (bl-av), B o (a9-ay), B o (bm-ay), B o av, B o ay]) (by simp[results,Tryz.results37,go_sem,df,dg,di,dk,dl,dm]) rfl ⟨rfl, ?_⟩;exact rR dn _ (by omega) _ _ _ _ _ _
def jz(A an:aR):aR:=(an.1*A.1+an.2.1*A.2.2.1,an.1*A.2.1+an.2.1*A.2.2.2.1,an.2.2.1*A.1+an.2.2.2.1*A.2.2.1,an.2.2.1*A.2.1+an.2.2.2.1*A.2.2.2.1,an.1*A.2.2.2.2.1+an.2.1*A.2.2.2.2.2+an.2.2.2.2.1,an.2.2.1*A.2.2.2.2.1+an.2.2.2.1*A.2.2.2.2.2+an.2.2.2.2.2)
theorem p1{b d:Int}(h:dh a b c d=S):
  (a=1/\b=0/\c=0/\d=1)∨(a=1/\b=0/\c=0/\d= -1)∨(a= -1/\b=0/\c=0/\d=1)∨(a= -1/\b=0/\c=0/\d= -1)∨
  (a=0/\b=1/\c=1/\d=0)∨(a=0/\b=1/\c= -1/\d=0)∨(a=0/\b= -1/\c=1/\d=0)∨(a=0/\b= -1/\c= -1/\d=0):=by
 simp only[dh,ew,Bool.or_eq_true,Bool.and_eq_true,beq_iff_eq] at h;rcases h with ⟨⟨rfl | rfl,rfl⟩,rfl | rfl,rfl⟩ | ⟨⟨rfl | rfl,rfl⟩,rfl | rfl,rfl⟩ <;> decide
def kO(A:aR)(n:Int):Prop:=dh A.1 A.2.1 A.2.2.1 A.2.2.2.1=S/\(-n<=A.2.2.2.2.1/\A.2.2.2.2.1<=n)/\(-n<=A.2.2.2.2.2/\A.2.2.2.2.2<=n)
theorem kO.mono{A:aR}{m:Int}(h:kO A n)(hn:n<=m):kO A m:=by
 obtain⟨h1,ab,ag⟩:=h;exact⟨h1,by omega,by omega⟩
theorem tA(v1:0<=v)(v2:v<=3)(c1: -n<=c)(c2:c<=n):kO (fE v c) (2*n):=by
 have h:v=0∨v=1∨v=2∨v=3:=by omega
 rcases h with rfl | rfl | rfl | rfl <;> simp[kO,fE,dh,ew] <;> omega
theorem gA{A:aR}(h:kO A n)(hn:n<=1000000):jy A.1 A.2.1 A.2.2.1 A.2.2.2.1 A.2.2.2.2.1 A.2.2.2.2.2:=by
 obtain⟨h1,ab,ag⟩:=h;rcases p1 h1 with ⟨ap,ak,ba,bb⟩ | ⟨ap,ak,ba,bb⟩ | ⟨ap,ak,ba,bb⟩ | ⟨ap,ak,ba,bb⟩ | ⟨ap,ak,ba,bb⟩ | ⟨ap,ak,ba,bb⟩ | ⟨ap,ak,ba,bb⟩ | ⟨ap,ak,ba,bb⟩ <;>
  (constructor <;> first | (rw[ap];decide) | (rw[ak];decide) | (rw[ba];decide) | (rw[bb];decide) | omega)
def zeroV:aR:=(0,0,0,0,0,0)
end
end Go.Proofs.YteaeipgfjmnecaaGreatDoor

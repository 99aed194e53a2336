/- Lemmas; each says its own conditions. -/
import Derived.Test.YteaeipgfjmnecaaGreatDoorK16
open Bool renaming false->Q,true->S
open Go renaming World->ac,heap_alloc_new->aQ,undef->U
open Go.Act renaming put->a6
open Go.World renaming size_alloc->em
open Int renaming toNat_of_nonneg->jp
open Go.IntKind renaming i64->o
open List renaming getElem?_cons_succ->cO,getElem?_cons_zero->cU,getElem?_toArray->cP,setIfInBounds_toArray->bd,set_cons_succ->ba,set_cons_zero->bc
open Go.Obj renaming cells->Y
open Option renaming none->F,some->D
open Go.Proofs.Tryz renaming prog->aj
open Go.Value renaming bool->aa,int->B,slice->O
namespace Go.Proofs.YteaeipgfjmnecaaGreatDoor
set_option linter.unusedSimpArgs false
set_option linter.unusedVariables false
set_option maxHeartbeats 12800000
section
set_option maxRecDepth 100000
open Go.RowKit Go.Maps
structure nQ(W:ac)(b:Nat)(c:bU)(af:Int):Prop where
 a1:W.cell? ⟨b,0,F⟩=D (B o c.e.1)
 c1:W.cell? ⟨b,1,F⟩=D (B o c.e.2.1)
 c2:W.cell? ⟨b,2,F⟩=D (B o c.e.2.2.1)
 bV:W.cell? ⟨b,3,F⟩=D (B o c.e.2.2.2)
 bC:W.cell? ⟨b,4,F⟩=D (B o (c.ay:Int))
 b8:W.cell? ⟨b,5,F⟩=D (B o c.pl.1)
 dk:W.cell? ⟨b,6,F⟩=D (B o c.pl.2.1)
 jC:W.cell? ⟨b,7,F⟩=D (B o c.pl.2.2)
 i2:W.cell? ⟨b,8,F⟩=D (B o af)
 hr:W.cell? ⟨b,9,F⟩=D (B o c.aH.1)
 kW:W.cell? ⟨b,10,F⟩=D (B o c.aH.2.1)
 kX:W.cell? ⟨b,11,F⟩=D (B o c.aH.2.2)
 nW:W.cell? ⟨b,12,F⟩=D (B o c.kind)
 mH:W.cell? ⟨b,13,F⟩=D (aa c.over)
theorem nQ.below{W W':ac}{b:Nat}{c:bU}{af:Int}(h:nQ W b c af)(aR:Below W.heap.size W W'):nQ W' b c af:=
 ⟨V h.a1 aR,V h.c1 aR,V h.c2 aR,V h.bV aR,V h.bC aR,V h.b8 aR,V h.dk aR,V h.jC aR,V h.i2 aR,V h.hr aR,V h.kW aR,V h.kX aR,V h.nW aR,V h.mH aR⟩
structure ed(aS:ac)(a:Nat)(x y:bU)(bW bX:Int)(ao ap bS bT:Nat)(aM am bg bt:Int)(W:ac):Prop where
 eX:nQ W a x bW
 x4:nQ W (a+1) y bX
 h1:W.cell? ⟨ao,ap+x.ay,F⟩=D (B o aM)
 ab:W.cell? ⟨ao,ap+y.ay,F⟩=D (B o am)
 ag:W.cell? ⟨ao,ap+bS,F⟩=D (B o bg)
 az:W.cell? ⟨ao,ap+bT,F⟩=D (B o bt)
 bel:Below aS.heap.size aS W
theorem ed.below{aS W W':ac}{a ao ap bS bT:Nat}{x y:bU}{bW bX aM am bg bt:Int}(h:ed aS a x y bW bX ao ap bS bT aM am bg bt W)(aR:Below W.heap.size W W'):ed aS a x y bW bX ao ap bS bT aM am bg bt W':=
 ⟨h.eX.below aR,h.x4.below aR,V h.h1 aR,V h.ab aR,V h.ag aR,V h.az aR,ax h.bel aR⟩
theorem xv(x y:bU)(h:List Int)(ao ap n bG:Nat)(w:ac)(hh:Rd w 1 (D ⟨ao,ap,F⟩) n (bF h))(h0:∀i:Nat,i < n->0<=be h i)(a2:x.ay < n)(a3:y.ay < n)(bv:¬(0:Int)<=x.an)(bo:x.goes=Q)(bn:x.fold=Q)(bx:¬(0:Int)<=y.an)(bL:y.goes=Q)(bK:y.fold=Q)(hn:n<=140737488351232):
  Calls aj 36 #[cC x,cC y, O (D ⟨ao,ap,F⟩) n bG] w fun r Z=>r= .returned (B o (dw h x y))/\Below w.heap.size w Z:=by
 have br:=aQ w (Y #[B o x.e.1, B o x.e.2.1, B o x.e.2.2.1, B o x.e.2.2.2, B o (x.ay:Int), B o x.pl.1, B o x.pl.2.1, B o x.pl.2.2, B o x.an, B o x.aH.1, B o x.aH.2.1, B o x.aH.2.2, B o x.kind, aa x.over] 89);have g:=aW br (Y #[B o y.e.1, B o y.e.2.1, B o y.e.2.2.1, B o y.e.2.2.2, B o (y.ay:Int), B o y.pl.1, B o y.pl.2.1, B o y.pl.2.2, B o y.an, B o y.aH.1, B o y.aH.2.1, B o y.aH.2.2, B o y.kind, aa y.over] 89);have bf:=aQ (w.alloc (Y #[B o x.e.1, B o x.e.2.1, B o x.e.2.2.1, B o x.e.2.2.2, B o (x.ay:Int), B o x.pl.1, B o x.pl.2.1, B o x.pl.2.2, B o x.an, B o x.aH.1, B o x.aH.2.1, B o x.aH.2.2, B o x.kind, aa x.over] 89)) (Y #[B o y.e.1, B o y.e.2.1, B o y.e.2.2.1, B o y.e.2.2.2, B o (y.ay:Int), B o y.pl.1, B o y.pl.2.1, B o y.pl.2.2, B o y.an, B o y.aH.1, B o y.aH.2.1, B o y.aH.2.2, B o y.kind, aa y.over] 89)
 rw[em] at bf;have bb:=aN (aV w (Y #[B o x.e.1, B o x.e.2.1, B o x.e.2.2.1, B o x.e.2.2.2, B o (x.ay:Int), B o x.pl.1, B o x.pl.2.1, B o x.pl.2.2, B o x.an, B o x.aH.1, B o x.aH.2.1, B o x.aH.2.2, B o x.kind, aa x.over] 89)) (Y #[B o y.e.1, B o y.e.2.1, B o y.e.2.2.1, B o y.e.2.2.2, B o (y.ay:Int), B o y.pl.1, B o y.pl.2.1, B o y.pl.2.2, B o y.an, B o y.aH.1, B o y.aH.2.1, B o y.aH.2.2, B o y.kind, aa y.over] 89);have E:=aB g 0;have G:=aB g 1;have N:=aB g 2;have P:=aB g 3;have T:=aB g 4;have ad:=aB g 5;have ae:=aB g 6;have ah:=aB g 7;have ak:=aB g 8;have al:=aB g 9
 have I:=aB g 10;have J:=aB g 11;have L:=aB g 12;have M:=aB g 13;obtain⟨aq,ar,aD,aE,aF,aG,aI,aJ,aK,aL,au,av,aA,aC⟩:=hw bf;simp only[cP,cU,cO] at E G N P T ad ae ah ak al I J L M;have a0:=hh.below bb;have s:=er a0 a2;have l:=er a0 a3;have bI:=h0 _ a2;have bJ:=h0 _ a3;have a7:=fun W:ac=>gV x W;have bi:=fun W:ac=>gV y W;have a5:=fun W:ac=>gz x W;have bh:=fun W:ac=>gz y W;have bm:=fun(a b c:Int) (W:ac)=>kV a b c W;obtain⟨bE,aU⟩:=ai (dw h x y);rw[<-aU];unfold dw at aU;obtain⟨bB,bl,bM,bs,b3,b4⟩:=ft aU bb h0 a0 a2 a3;obtain⟨aM,a8⟩:=ai (be h (x.ay:Int))
 obtain⟨am,a9⟩:=ai (be h (y.ay:Int));rw[<-a8] at s bI;rw[<-a9] at l bJ;obtain⟨bZ,b2⟩:=aY a8 a9;have cb:(0:Int)<=(x.ay:Int):=by omega
 have ce:(0:Int)<=(y.ay:Int):=by omega
 have cd:(x.ay:Int) < (n:Int):=by omega
 have cf:(y.ay:Int) < (n:Int):=by omega
 have b6:¬aM < 0:=by omega
 have b7:¬am < 0:=by omega
 clear br g bf bb a0 hh h0 aU a2 a3 a8 a9;have b9:¬x.an≥0:=bv;have ca:¬y.an≥0:=bx;simp only[bo] at a7;simp only[bn] at a5;simp only[bL] at bi;simp only[bK] at bh;go_in
 go_wp2_with fail
 generalize (w.alloc (Y #[B o x.e.1, B o x.e.2.1, B o x.e.2.2.1, B o x.e.2.2.2, B o (x.ay:Int), B o x.pl.1, B o x.pl.2.1, B o x.pl.2.2, B o x.an, B o x.aH.1, B o x.aH.2.1, B o x.aH.2.2, B o x.kind, aa x.over] 89)).alloc (Y #[B o y.e.1, B o y.e.2.1, B o y.e.2.2.1, B o y.e.2.2.2, B o (y.ay:Int), B o y.pl.1, B o y.pl.2.1, B o y.pl.2.2, B o y.an, B o y.aH.1, B o y.aH.2.1, B o y.aH.2.2, B o y.kind, aa y.over] 89)=aS at E G N P T ad ae ah ak al I J L M aq ar aD aE aF aG aI aJ aK aL au av aA aC s l bl bs |-;obtain⟨bz,bN,bk,bR,bY⟩:=dY a7 bi a5 bh bm;clear a7 bi a5 bh bm;refine dR (fin:= ?z1) [cC x, aa Q, aa Q,U,U, aa Q, aa Q,U,U,U,U,U,U,U,U,U,U,U, aa Q, aa Q,U,U,U,U,U,U,U,U,U,U,U, aa Q] (fun k=>ed aS w.heap.size x y x.an y.an ao ap x.ay y.ay aM am aM am k) ?hf bp (by kernel_rfl) rfl ⟨⟨E,G,N,P,T,ad,ae,ah,ak,al,I,J,L,M⟩,⟨aq,ar,aD,aE,aF,aG,aI,aJ,aK,aL,au,av,aA,aC⟩,s,l,s,l,aX.drew⟩ fun k hst=> ?_
 case hf=>simp only[aT,a6,bd,ba,bc];exact rfl
 have aP:=R hst;obtain⟨⟨E,G,N,P,T,ad,ae,ah,ak,al,I,J,L,M⟩,⟨aq,ar,aD,aE,aF,aG,aI,aJ,aK,aL,au,av,aA,aC⟩,s,l,bP,bw,A⟩:=hst;constructor
 ·iterate 32 refine⟨?_,fun K z=> ?_⟩
  ·trivial
  all_goals try (go_simp;exact z _ aP.out;done)
  go_simp;exact aw (bz.out k) fun wc aO=>z _ (aP.out.below aO)
 have a4:=R A;clear A
 go_wp2_with fail
 obtain⟨cq,rfl⟩:=ai k;refine dR (fin:= ?z2) [cC x, aa Q, aa Q,U,U, aa Q, aa Q,U,U,U,U,U,U,U,U,U,U,U,U,U,U,U,U, aa Q] (fun k=>ed aS w.heap.size x y x.an y.an ao ap x.ay y.ay aM am aM am k) ?hf bp (by kernel_rfl) rfl ⟨⟨E,G,N,P,T,ad,ae,ah,ak,al,I,J,L,M⟩,⟨aq,ar,aD,aE,aF,aG,aI,aJ,aK,aL,au,av,aA,aC⟩,s,l,s,l,a4.out.drew⟩ fun k hst=> ?_;case hf=>simp only[aT,a6,bd,ba,bc];exact rfl
 have aP:=R hst;obtain⟨⟨E,G,N,P,T,ad,ae,ah,ak,al,I,J,L,M⟩,⟨aq,ar,aD,aE,aF,aG,aI,aJ,aK,aL,au,av,aA,aC⟩,s,l,bP,bw,A⟩:=hst;constructor
 ·iterate 24 refine⟨?_,fun K z=> ?_⟩
  ·trivial
  all_goals try (go_simp;exact z _ aP.out;done)
  go_simp;exact aw (bk.out k) fun wc aO=>z _ (aP.out.below aO)
 have a4:=R A;clear A
 go_wp2_with fail
 obtain⟨cr,rfl⟩:=ai k;refine dR (fin:= ?z3) [cC x, aa Q, aa Q,U,U, aa Q, aa Q,U,U,U,U,U, aa Q, aa Q,U,U,U,U,U,U,U,U,U,U,U,U,U,U,U,U,U,U,U,U,U,U,U,U,U,U,U,U,U,U,U,U,U, aa Q] (fun k=>ed aS w.heap.size x y x.an y.an ao ap x.ay y.ay aM am aM am k) ?hf bp (by kernel_rfl) rfl ⟨⟨E,G,N,P,T,ad,ae,ah,ak,al,I,J,L,M⟩,⟨aq,ar,aD,aE,aF,aG,aI,aJ,aK,aL,au,av,aA,aC⟩,s,l,s,l,a4.out.drew⟩ fun k hst=> ?_;case hf=>simp only[aT,a6,bd,ba,bc];exact rfl
 have bj:=R hst;obtain⟨⟨E,G,N,P,T,ad,ae,ah,ak,al,I,J,L,M⟩,⟨aq,ar,aD,aE,aF,aG,aI,aJ,aK,aL,au,av,aA,aC⟩,s,l,bP,bw,A⟩:=hst;constructor
 ·iterate 48 refine⟨?_,fun K z=> ?_⟩
  ·trivial
  all_goals try (go_simp;exact z _ bj.out;done)
  go_simp;exact aw (bk.out k) fun wc aO=>z _ (bj.out.below aO)
 have bA:=R (ax bl.out A);have bq:bE=0:=by
  rw[bB.out];rw[bo,bn];simp only[Bool.false_and,cond_false]
 have bD:=R bq;clear bq A;go_wp2;go_ret;exact⟨ez bD.out.symm,bA.out⟩
theorem xu(x y:bU)(h:List Int)(ao ap n bG:Nat)(w:ac)(hh:Rd w 1 (D ⟨ao,ap,F⟩) n (bF h))(h0:∀i:Nat,i < n->0<=be h i)(a2:x.ay < n)(a3:y.ay < n)(bv:¬(0:Int)<=x.an)(bo:x.goes=Q)(bn:x.fold=Q)(bx:(0:Int)<=y.an)(co:y.an < (n:Int))(hn:n<=140737488351232):
  Calls aj 36 #[cC x,cC y, O (D ⟨ao,ap,F⟩) n bG] w fun r Z=>r= .returned (B o (dw h x y))/\Below w.heap.size w Z:=by
 have br:=aQ w (Y #[B o x.e.1, B o x.e.2.1, B o x.e.2.2.1, B o x.e.2.2.2, B o (x.ay:Int), B o x.pl.1, B o x.pl.2.1, B o x.pl.2.2, B o x.an, B o x.aH.1, B o x.aH.2.1, B o x.aH.2.2, B o x.kind, aa x.over] 89);have g:=aW br (Y #[B o y.e.1, B o y.e.2.1, B o y.e.2.2.1, B o y.e.2.2.2, B o (y.ay:Int), B o y.pl.1, B o y.pl.2.1, B o y.pl.2.2, B o y.an, B o y.aH.1, B o y.aH.2.1, B o y.aH.2.2, B o y.kind, aa y.over] 89);have bf:=aQ (w.alloc (Y #[B o x.e.1, B o x.e.2.1, B o x.e.2.2.1, B o x.e.2.2.2, B o (x.ay:Int), B o x.pl.1, B o x.pl.2.1, B o x.pl.2.2, B o x.an, B o x.aH.1, B o x.aH.2.1, B o x.aH.2.2, B o x.kind, aa x.over] 89)) (Y #[B o y.e.1, B o y.e.2.1, B o y.e.2.2.1, B o y.e.2.2.2, B o (y.ay:Int), B o y.pl.1, B o y.pl.2.1, B o y.pl.2.2, B o y.an, B o y.aH.1, B o y.aH.2.1, B o y.aH.2.2, B o y.kind, aa y.over] 89)
 rw[em] at bf;have bb:=aN (aV w (Y #[B o x.e.1, B o x.e.2.1, B o x.e.2.2.1, B o x.e.2.2.2, B o (x.ay:Int), B o x.pl.1, B o x.pl.2.1, B o x.pl.2.2, B o x.an, B o x.aH.1, B o x.aH.2.1, B o x.aH.2.2, B o x.kind, aa x.over] 89)) (Y #[B o y.e.1, B o y.e.2.1, B o y.e.2.2.1, B o y.e.2.2.2, B o (y.ay:Int), B o y.pl.1, B o y.pl.2.1, B o y.pl.2.2, B o y.an, B o y.aH.1, B o y.aH.2.1, B o y.aH.2.2, B o y.kind, aa y.over] 89);have E:=aB g 0;have G:=aB g 1;have N:=aB g 2;have P:=aB g 3;have T:=aB g 4;have ad:=aB g 5;have ae:=aB g 6;have ah:=aB g 7;have ak:=aB g 8;have al:=aB g 9
 have I:=aB g 10;have J:=aB g 11;have L:=aB g 12;have M:=aB g 13;obtain⟨aq,ar,aD,aE,aF,aG,aI,aJ,aK,aL,au,av,aA,aC⟩:=hw bf;simp only[cP,cU,cO] at E G N P T ad ae ah ak al I J L M;have a0:=hh.below bb;have s:=er a0 a2;have l:=er a0 a3;have bI:=h0 _ a2;have bJ:=h0 _ a3;have a7:=fun W:ac=>gV x W;have bi:=fun W:ac=>gV y W;have a5:=fun W:ac=>gz x W;have bh:=fun W:ac=>gz y W;have bm:=fun(a b c:Int) (W:ac)=>kV a b c W;obtain⟨bE,aU⟩:=ai (dw h x y);rw[<-aU];unfold dw at aU;obtain⟨bB,bl,bM,bs,b3,b4⟩:=ft aU bb h0 a0 a2 a3;obtain⟨aM,a8⟩:=ai (be h (x.ay:Int))
 obtain⟨am,a9⟩:=ai (be h (y.ay:Int));rw[<-a8] at s bI;rw[<-a9] at l bJ;obtain⟨bZ,b2⟩:=aY a8 a9;have cb:(0:Int)<=(x.ay:Int):=by omega
 have ce:(0:Int)<=(y.ay:Int):=by omega
 have cd:(x.ay:Int) < (n:Int):=by omega
 have cf:(y.ay:Int) < (n:Int):=by omega
 have b6:¬aM < 0:=by omega
 have b7:¬am < 0:=by omega
 clear br g bf bb a0 hh h0 aU a2 a3 a8 a9;have b9:¬x.an≥0:=bv;have ca:y.an≥0:=bx;have ch:((y.an.toNat:Nat):Int)=y.an:=jp bx;have bu:=er bs.out (show y.an.toNat < n by omega);have cg:=bM.out y.an.toNat (by omega);rw[ch] at bu cg;obtain⟨bt,b5⟩:=ai (be h y.an);rw[<-b5] at bu cg;have cl:=R b5;have cn:¬bt < 0:=by omega
 clear b5 ch;simp only[bo] at a7;simp only[bn] at a5;go_in
 go_wp2_with fail
 generalize (w.alloc (Y #[B o x.e.1, B o x.e.2.1, B o x.e.2.2.1, B o x.e.2.2.2, B o (x.ay:Int), B o x.pl.1, B o x.pl.2.1, B o x.pl.2.2, B o x.an, B o x.aH.1, B o x.aH.2.1, B o x.aH.2.2, B o x.kind, aa x.over] 89)).alloc (Y #[B o y.e.1, B o y.e.2.1, B o y.e.2.2.1, B o y.e.2.2.2, B o (y.ay:Int), B o y.pl.1, B o y.pl.2.1, B o y.pl.2.2, B o y.an, B o y.aH.1, B o y.aH.2.1, B o y.aH.2.2, B o y.kind, aa y.over] 89)=aS at E G N P T ad ae ah ak al I J L M aq ar aD aE aF aG aI aJ aK aL au av aA aC s l bu bl bs |-;obtain⟨bz,bN,bk,bR,bY⟩:=dY a7 bi a5 bh bm;clear a7 bi a5 bh bm;refine dR (fin:= ?z4) [cC x, aa Q, aa Q,U,U, aa Q, aa Q,U,U,U,U,U,U,U,U,U,U,U, aa Q, aa Q,U,U,U,U,U,U,U,U,U,U,U, aa Q] (fun k=>ed aS w.heap.size x y x.an y.an ao ap x.ay y.an.toNat aM am aM bt k) ?hf bp (by kernel_rfl) rfl ⟨⟨E,G,N,P,T,ad,ae,ah,ak,al,I,J,L,M⟩,⟨aq,ar,aD,aE,aF,aG,aI,aJ,aK,aL,au,av,aA,aC⟩,s,l,s,bu,aX.drew⟩ fun k hst=> ?_
 case hf=>simp only[aT,a6,bd,ba,bc];exact rfl
 have aP:=R hst;obtain⟨⟨E,G,N,P,T,ad,ae,ah,ak,al,I,J,L,M⟩,⟨aq,ar,aD,aE,aF,aG,aI,aJ,aK,aL,au,av,aA,aC⟩,s,l,bP,bu,A⟩:=hst;constructor
 ·iterate 32 refine⟨?_,fun K z=> ?_⟩
  ·trivial
  all_goals try (go_simp;exact z _ aP.out;done)
  go_simp;exact aw (bz.out k) fun wc aO=>z _ (aP.out.below aO)
 have a4:=R A;clear A
 go_wp2_with fail
 obtain⟨ct,rfl⟩:=ai k;refine dR (fin:= ?z5) [cC x, aa Q, aa Q,U,U, aa Q, aa Q,U,U,U,U,U,U,U,U,U,U,U,U,U,U,U,U, aa Q] (fun k=>ed aS w.heap.size x y x.an y.an ao ap x.ay y.an.toNat aM am aM bt k) ?hf bp (by kernel_rfl) rfl ⟨⟨E,G,N,P,T,ad,ae,ah,ak,al,I,J,L,M⟩,⟨aq,ar,aD,aE,aF,aG,aI,aJ,aK,aL,au,av,aA,aC⟩,s,l,s,bu,a4.out.drew⟩ fun k hst=> ?_;case hf=>simp only[aT,a6,bd,ba,bc];exact rfl
 have aP:=R hst;obtain⟨⟨E,G,N,P,T,ad,ae,ah,ak,al,I,J,L,M⟩,⟨aq,ar,aD,aE,aF,aG,aI,aJ,aK,aL,au,av,aA,aC⟩,s,l,bP,bu,A⟩:=hst;constructor
 ·iterate 24 refine⟨?_,fun K z=> ?_⟩
  ·trivial
  all_goals try (go_simp;exact z _ aP.out;done)
  go_simp;exact aw (bk.out k) fun wc aO=>z _ (aP.out.below aO)
 have a4:=R A;clear A
 go_wp2_with fail
 obtain⟨cu,rfl⟩:=ai k;refine dR (fin:= ?z6) [cC x, aa Q, aa Q,U,U, aa Q, aa Q,U,U,U,U,U, aa Q, aa Q,U,U,U,U,U,U,U,U,U,U,U,U,U,U,U,U,U,U,U,U,U,U,U,U,U,U,U,U,U,U,U,U,U, aa Q] (fun k=>ed aS w.heap.size x y x.an y.an ao ap x.ay y.an.toNat aM am aM bt k) ?hf bp (by kernel_rfl) rfl ⟨⟨E,G,N,P,T,ad,ae,ah,ak,al,I,J,L,M⟩,⟨aq,ar,aD,aE,aF,aG,aI,aJ,aK,aL,au,av,aA,aC⟩,s,l,s,bu,a4.out.drew⟩ fun k hst=> ?_;case hf=>simp only[aT,a6,bd,ba,bc];exact rfl
 have bj:=R hst;obtain⟨⟨E,G,N,P,T,ad,ae,ah,ak,al,I,J,L,M⟩,⟨aq,ar,aD,aE,aF,aG,aI,aJ,aK,aL,au,av,aA,aC⟩,s,l,bP,bu,A⟩:=hst;constructor
 ·iterate 48 refine⟨?_,fun K z=> ?_⟩
  ·trivial
  all_goals try (go_simp;exact z _ bj.out;done)
  go_simp;exact aw (bk.out k) fun wc aO=>z _ (bj.out.below aO)
 have bA:=R (ax bl.out A);have bq:bE=0:=by
  rw[bB.out];rw[bo,bn];simp only[Bool.false_and,cond_false]
 have bD:=R bq;clear bq A;go_wp2;go_ret;exact⟨ez bD.out.symm,bA.out⟩
theorem xt(x y:bU)(h:List Int)(ao ap n bG:Nat)(w:ac)(hh:Rd w 1 (D ⟨ao,ap,F⟩) n (bF h))(h0:∀i:Nat,i < n->0<=be h i)(a2:x.ay < n)(a3:y.ay < n)(bv:(0:Int)<=x.an)(ck:x.an < (n:Int))(bo:x.goes=S)(bn:x.fold=Q)(bx:¬(0:Int)<=y.an)(bL:y.goes=Q)(bK:y.fold=Q)(hn:n<=140737488351232):
  Calls aj 36 #[cC x,cC y, O (D ⟨ao,ap,F⟩) n bG] w fun r Z=>r= .returned (B o (dw h x y))/\Below w.heap.size w Z:=by
 have br:=aQ w (Y #[B o x.e.1, B o x.e.2.1, B o x.e.2.2.1, B o x.e.2.2.2, B o (x.ay:Int), B o x.pl.1, B o x.pl.2.1, B o x.pl.2.2, B o x.an, B o x.aH.1, B o x.aH.2.1, B o x.aH.2.2, B o x.kind, aa x.over] 89);have g:=aW br (Y #[B o y.e.1, B o y.e.2.1, B o y.e.2.2.1, B o y.e.2.2.2, B o (y.ay:Int), B o y.pl.1, B o y.pl.2.1, B o y.pl.2.2, B o y.an, B o y.aH.1, B o y.aH.2.1, B o y.aH.2.2, B o y.kind, aa y.over] 89);have bf:=aQ (w.alloc (Y #[B o x.e.1, B o x.e.2.1, B o x.e.2.2.1, B o x.e.2.2.2, B o (x.ay:Int), B o x.pl.1, B o x.pl.2.1, B o x.pl.2.2, B o x.an, B o x.aH.1, B o x.aH.2.1, B o x.aH.2.2, B o x.kind, aa x.over] 89)) (Y #[B o y.e.1, B o y.e.2.1, B o y.e.2.2.1, B o y.e.2.2.2, B o (y.ay:Int), B o y.pl.1, B o y.pl.2.1, B o y.pl.2.2, B o y.an, B o y.aH.1, B o y.aH.2.1, B o y.aH.2.2, B o y.kind, aa y.over] 89)
 rw[em] at bf;have bb:=aN (aV w (Y #[B o x.e.1, B o x.e.2.1, B o x.e.2.2.1, B o x.e.2.2.2, B o (x.ay:Int), B o x.pl.1, B o x.pl.2.1, B o x.pl.2.2, B o x.an, B o x.aH.1, B o x.aH.2.1, B o x.aH.2.2, B o x.kind, aa x.over] 89)) (Y #[B o y.e.1, B o y.e.2.1, B o y.e.2.2.1, B o y.e.2.2.2, B o (y.ay:Int), B o y.pl.1, B o y.pl.2.1, B o y.pl.2.2, B o y.an, B o y.aH.1, B o y.aH.2.1, B o y.aH.2.2, B o y.kind, aa y.over] 89);have E:=aB g 0;have G:=aB g 1;have N:=aB g 2;have P:=aB g 3;have T:=aB g 4;have ad:=aB g 5;have ae:=aB g 6;have ah:=aB g 7;have ak:=aB g 8;have al:=aB g 9
 have I:=aB g 10;have J:=aB g 11;have L:=aB g 12;have M:=aB g 13;obtain⟨aq,ar,aD,aE,aF,aG,aI,aJ,aK,aL,au,av,aA,aC⟩:=hw bf;simp only[cP,cU,cO] at E G N P T ad ae ah ak al I J L M;have a0:=hh.below bb;have s:=er a0 a2;have l:=er a0 a3;have bI:=h0 _ a2;have bJ:=h0 _ a3;have a7:=fun W:ac=>gV x W;have bi:=fun W:ac=>gV y W;have a5:=fun W:ac=>gz x W;have bh:=fun W:ac=>gz y W;have bm:=fun(a b c:Int) (W:ac)=>kV a b c W;obtain⟨bE,aU⟩:=ai (dw h x y);rw[<-aU];unfold dw at aU;obtain⟨bB,bl,bM,bs,b3,b4⟩:=ft aU bb h0 a0 a2 a3;obtain⟨aM,a8⟩:=ai (be h (x.ay:Int))
 obtain⟨am,a9⟩:=ai (be h (y.ay:Int));rw[<-a8] at s bI;rw[<-a9] at l bJ;obtain⟨bZ,b2⟩:=aY a8 a9;have cb:(0:Int)<=(x.ay:Int):=by omega
 have ce:(0:Int)<=(y.ay:Int):=by omega
 have cd:(x.ay:Int) < (n:Int):=by omega
 have cf:(y.ay:Int) < (n:Int):=by omega
 have b6:¬aM < 0:=by omega
 have b7:¬am < 0:=by omega
 clear br g bf bb a0 hh h0 aU a2 a3 a8 a9;have b9:x.an≥0:=bv;have bQ:((x.an.toNat:Nat):Int)=x.an:=jp bv;have aZ:=er bs.out (show x.an.toNat < n by omega);have bO:=bM.out x.an.toNat (by omega);rw[bQ] at aZ bO;obtain⟨bg,bH⟩:=ai (be h x.an);rw[<-bH] at aZ bO;have ci:=R bH;have cj:¬bg < 0:=by omega
 clear bH bQ;have ca:¬y.an≥0:=bx;simp only[bo] at a7;simp only[bn] at a5;simp only[bL] at bi;simp only[bK] at bh;go_in
 go_wp2_with fail
 generalize (w.alloc (Y #[B o x.e.1, B o x.e.2.1, B o x.e.2.2.1, B o x.e.2.2.2, B o (x.ay:Int), B o x.pl.1, B o x.pl.2.1, B o x.pl.2.2, B o x.an, B o x.aH.1, B o x.aH.2.1, B o x.aH.2.2, B o x.kind, aa x.over] 89)).alloc (Y #[B o y.e.1, B o y.e.2.1, B o y.e.2.2.1, B o y.e.2.2.2, B o (y.ay:Int), B o y.pl.1, B o y.pl.2.1, B o y.pl.2.2, B o y.an, B o y.aH.1, B o y.aH.2.1, B o y.aH.2.2, B o y.kind, aa y.over] 89)=aS at E G N P T ad ae ah ak al I J L M aq ar aD aE aF aG aI aJ aK aL au av aA aC s l aZ bl bs |-;obtain⟨bz,bN,bk,bR,bY⟩:=dY a7 bi a5 bh bm;clear a7 bi a5 bh bm;refine dR (fin:= ?z7) [cC x, aa S, aa S,cC y, aa Q, aa Q, aa Q,U,U,U,U,U,U,U,U,U,U,U, aa Q, aa Q,U,U,U,U,U,U,U,U,U,U,U, aa Q] (fun k=>ed aS w.heap.size x y x.an y.an ao ap x.an.toNat y.ay aM am bg am k) ?hf bp (by kernel_rfl) rfl ⟨⟨E,G,N,P,T,ad,ae,ah,ak,al,I,J,L,M⟩,⟨aq,ar,aD,aE,aF,aG,aI,aJ,aK,aL,au,av,aA,aC⟩,s,l,aZ,l,aX.drew⟩ fun k hst=> ?_
 case hf=>simp only[aT,a6,bd,ba,bc];exact rfl
 have aP:=R hst;obtain⟨⟨E,G,N,P,T,ad,ae,ah,ak,al,I,J,L,M⟩,⟨aq,ar,aD,aE,aF,aG,aI,aJ,aK,aL,au,av,aA,aC⟩,s,l,aZ,bw,A⟩:=hst;constructor
 ·iterate 32 refine⟨?_,fun K z=> ?_⟩
  ·trivial
  all_goals try (go_simp;exact z _ aP.out;done)
  ·go_simp
   exact aw (bN.out k) fun wc aO=>z _ (aP.out.below aO)
  go_simp;exact aw (bz.out k) fun wc aO=>z _ (aP.out.below aO)
 have a4:=R A;clear A
 go_wp2_with fail
 obtain⟨cv,rfl⟩:=ai k;refine dR (fin:= ?z8) [cC x, aa Q, aa Q,U,U, aa Q, aa Q,U,U,U,U,U,U,U,U,U,U,U,U,U,U,U,U, aa Q] (fun k=>ed aS w.heap.size x y x.an y.an ao ap x.an.toNat y.ay aM am bg am k) ?hf bp (by kernel_rfl) rfl ⟨⟨E,G,N,P,T,ad,ae,ah,ak,al,I,J,L,M⟩,⟨aq,ar,aD,aE,aF,aG,aI,aJ,aK,aL,au,av,aA,aC⟩,s,l,aZ,l,a4.out.drew⟩ fun k hst=> ?_;case hf=>simp only[aT,a6,bd,ba,bc];exact rfl
 have aP:=R hst;obtain⟨⟨E,G,N,P,T,ad,ae,ah,ak,al,I,J,L,M⟩,⟨aq,ar,aD,aE,aF,aG,aI,aJ,aK,aL,au,av,aA,aC⟩,s,l,aZ,bw,A⟩:=hst;constructor
 ·iterate 24 refine⟨?_,fun K z=> ?_⟩
  ·trivial
  all_goals try (go_simp;exact z _ aP.out;done)
  go_simp;exact aw (bk.out k) fun wc aO=>z _ (aP.out.below aO)
 have a4:=R A;clear A
 go_wp2_with fail
 obtain⟨cw,rfl⟩:=ai k;refine dR (fin:= ?z9) [cC x, aa Q, aa Q,U,U, aa Q, aa Q,U,U,U,U,U, aa Q, aa Q,U,U,U,U,U,U,U,U,U,U,U,U,U,U,U,U,U,U,U,U,U,U,U,U,U,U,U,U,U,U,U,U,U, aa Q] (fun k=>ed aS w.heap.size x y x.an y.an ao ap x.an.toNat y.ay aM am bg am k) ?hf bp (by kernel_rfl) rfl ⟨⟨E,G,N,P,T,ad,ae,ah,ak,al,I,J,L,M⟩,⟨aq,ar,aD,aE,aF,aG,aI,aJ,aK,aL,au,av,aA,aC⟩,s,l,aZ,l,a4.out.drew⟩ fun k hst=> ?_;case hf=>simp only[aT,a6,bd,ba,bc];exact rfl
 have bj:=R hst;obtain⟨⟨E,G,N,P,T,ad,ae,ah,ak,al,I,J,L,M⟩,⟨aq,ar,aD,aE,aF,aG,aI,aJ,aK,aL,au,av,aA,aC⟩,s,l,aZ,bw,A⟩:=hst;constructor
 ·iterate 48 refine⟨?_,fun K z=> ?_⟩
  ·trivial
  all_goals try (go_simp;exact z _ bj.out;done)
  go_simp;exact aw (bk.out k) fun wc aO=>z _ (bj.out.below aO)
 have bA:=R (ax bl.out A);have bq:bE=0:=by
  rw[bB.out];rw[bo,bL,bn,bK];simp
 have bD:=R bq;clear bq A;go_wp2;go_ret;exact⟨ez bD.out.symm,bA.out⟩
theorem xq(x y:bU)(h:List Int)(ao ap n bG:Nat)(w:ac)(hh:Rd w 1 (D ⟨ao,ap,F⟩) n (bF h))(h0:∀i:Nat,i < n->0<=be h i)(a2:x.ay < n)(a3:y.ay < n)(bv:(0:Int)<=x.an)(ck:x.an < (n:Int))(bo:x.goes=Q)(bn:x.fold=S)(bx:¬(0:Int)<=y.an)(bL:y.goes=Q)(bK:y.fold=Q)(hn:n<=140737488351232):
  Calls aj 36 #[cC x,cC y, O (D ⟨ao,ap,F⟩) n bG] w fun r Z=>r= .returned (B o (dw h x y))/\Below w.heap.size w Z:=by
 have br:=aQ w (Y #[B o x.e.1, B o x.e.2.1, B o x.e.2.2.1, B o x.e.2.2.2, B o (x.ay:Int), B o x.pl.1, B o x.pl.2.1, B o x.pl.2.2, B o x.an, B o x.aH.1, B o x.aH.2.1, B o x.aH.2.2, B o x.kind, aa x.over] 89);have g:=aW br (Y #[B o y.e.1, B o y.e.2.1, B o y.e.2.2.1, B o y.e.2.2.2, B o (y.ay:Int), B o y.pl.1, B o y.pl.2.1, B o y.pl.2.2, B o y.an, B o y.aH.1, B o y.aH.2.1, B o y.aH.2.2, B o y.kind, aa y.over] 89);have bf:=aQ (w.alloc (Y #[B o x.e.1, B o x.e.2.1, B o x.e.2.2.1, B o x.e.2.2.2, B o (x.ay:Int), B o x.pl.1, B o x.pl.2.1, B o x.pl.2.2, B o x.an, B o x.aH.1, B o x.aH.2.1, B o x.aH.2.2, B o x.kind, aa x.over] 89)) (Y #[B o y.e.1, B o y.e.2.1, B o y.e.2.2.1, B o y.e.2.2.2, B o (y.ay:Int), B o y.pl.1, B o y.pl.2.1, B o y.pl.2.2, B o y.an, B o y.aH.1, B o y.aH.2.1, B o y.aH.2.2, B o y.kind, aa y.over] 89)
 rw[em] at bf;have bb:=aN (aV w (Y #[B o x.e.1, B o x.e.2.1, B o x.e.2.2.1, B o x.e.2.2.2, B o (x.ay:Int), B o x.pl.1, B o x.pl.2.1, B o x.pl.2.2, B o x.an, B o x.aH.1, B o x.aH.2.1, B o x.aH.2.2, B o x.kind, aa x.over] 89)) (Y #[B o y.e.1, B o y.e.2.1, B o y.e.2.2.1, B o y.e.2.2.2, B o (y.ay:Int), B o y.pl.1, B o y.pl.2.1, B o y.pl.2.2, B o y.an, B o y.aH.1, B o y.aH.2.1, B o y.aH.2.2, B o y.kind, aa y.over] 89);have E:=aB g 0;have G:=aB g 1;have N:=aB g 2;have P:=aB g 3;have T:=aB g 4;have ad:=aB g 5;have ae:=aB g 6;have ah:=aB g 7;have ak:=aB g 8;have al:=aB g 9
 have I:=aB g 10;have J:=aB g 11;have L:=aB g 12;have M:=aB g 13;obtain⟨aq,ar,aD,aE,aF,aG,aI,aJ,aK,aL,au,av,aA,aC⟩:=hw bf;simp only[cP,cU,cO] at E G N P T ad ae ah ak al I J L M;have a0:=hh.below bb;have s:=er a0 a2;have l:=er a0 a3;have bI:=h0 _ a2;have bJ:=h0 _ a3;have a7:=fun W:ac=>gV x W;have bi:=fun W:ac=>gV y W;have a5:=fun W:ac=>gz x W;have bh:=fun W:ac=>gz y W;have bm:=fun(a b c:Int) (W:ac)=>kV a b c W;obtain⟨bE,aU⟩:=ai (dw h x y);rw[<-aU];unfold dw at aU;obtain⟨bB,bl,bM,bs,b3,b4⟩:=ft aU bb h0 a0 a2 a3;obtain⟨aM,a8⟩:=ai (be h (x.ay:Int))
 obtain⟨am,a9⟩:=ai (be h (y.ay:Int));rw[<-a8] at s bI;rw[<-a9] at l bJ;obtain⟨bZ,b2⟩:=aY a8 a9;have cb:(0:Int)<=(x.ay:Int):=by omega
 have ce:(0:Int)<=(y.ay:Int):=by omega
 have cd:(x.ay:Int) < (n:Int):=by omega
 have cf:(y.ay:Int) < (n:Int):=by omega
 have b6:¬aM < 0:=by omega
 have b7:¬am < 0:=by omega
 clear br g bf bb a0 hh h0 aU a2 a3 a8 a9;have b9:x.an≥0:=bv;have bQ:((x.an.toNat:Nat):Int)=x.an:=jp bv;have aZ:=er bs.out (show x.an.toNat < n by omega);have bO:=bM.out x.an.toNat (by omega);rw[bQ] at aZ bO;obtain⟨bg,bH⟩:=ai (be h x.an);rw[<-bH] at aZ bO;have ci:=R bH;have cj:¬bg < 0:=by omega
 clear bH bQ;have ca:¬y.an≥0:=bx;simp only[bo] at a7;simp only[bn] at a5;simp only[bL] at bi;simp only[bK] at bh;go_in
 go_wp2_with fail
 generalize (w.alloc (Y #[B o x.e.1, B o x.e.2.1, B o x.e.2.2.1, B o x.e.2.2.2, B o (x.ay:Int), B o x.pl.1, B o x.pl.2.1, B o x.pl.2.2, B o x.an, B o x.aH.1, B o x.aH.2.1, B o x.aH.2.2, B o x.kind, aa x.over] 89)).alloc (Y #[B o y.e.1, B o y.e.2.1, B o y.e.2.2.1, B o y.e.2.2.2, B o (y.ay:Int), B o y.pl.1, B o y.pl.2.1, B o y.pl.2.2, B o y.an, B o y.aH.1, B o y.aH.2.1, B o y.aH.2.2, B o y.kind, aa y.over] 89)=aS at E G N P T ad ae ah ak al I J L M aq ar aD aE aF aG aI aJ aK aL au av aA aC s l aZ bl bs |-;obtain⟨bz,bN,bk,bR,bY⟩:=dY a7 bi a5 bh bm;clear a7 bi a5 bh bm;refine dR (fin:= ?z10) [cC x, aa Q, aa Q,U,U, aa Q, aa Q,U,U,U,U,U,U,U,U,U,U,U, aa Q, aa Q,U,U,U,U,U,U,U,U,U,U,U, aa Q] (fun k=>ed aS w.heap.size x y x.an y.an ao ap x.an.toNat y.ay aM am bg am k) ?hf bp (by kernel_rfl) rfl ⟨⟨E,G,N,P,T,ad,ae,ah,ak,al,I,J,L,M⟩,⟨aq,ar,aD,aE,aF,aG,aI,aJ,aK,aL,au,av,aA,aC⟩,s,l,aZ,l,aX.drew⟩ fun k hst=> ?_
 case hf=>simp only[aT,a6,bd,ba,bc];exact rfl
 have aP:=R hst;obtain⟨⟨E,G,N,P,T,ad,ae,ah,ak,al,I,J,L,M⟩,⟨aq,ar,aD,aE,aF,aG,aI,aJ,aK,aL,au,av,aA,aC⟩,s,l,aZ,bw,A⟩:=hst;constructor
 ·iterate 32 refine⟨?_,fun K z=> ?_⟩
  ·trivial
  all_goals try (go_simp;exact z _ aP.out;done)
  go_simp;exact aw (bz.out k) fun wc aO=>z _ (aP.out.below aO)
 have a4:=R A;clear A
 go_wp2_with fail
 obtain⟨cx,rfl⟩:=ai k;refine dR (fin:= ?z11) [cC x, aa S, aa S,cC y, aa Q, aa Q, aa Q,U,U,U,U,U,U,U,U,U,U,U,U,U,U,U,U, aa Q] (fun k=>ed aS w.heap.size x y x.an y.an ao ap x.an.toNat y.ay aM am bg am k) ?hf bp (by kernel_rfl) rfl ⟨⟨E,G,N,P,T,ad,ae,ah,ak,al,I,J,L,M⟩,⟨aq,ar,aD,aE,aF,aG,aI,aJ,aK,aL,au,av,aA,aC⟩,s,l,aZ,l,a4.out.drew⟩ fun k hst=> ?_;case hf=>simp only[aT,a6,bd,ba,bc];exact rfl
 have aP:=R hst;obtain⟨⟨E,G,N,P,T,ad,ae,ah,ak,al,I,J,L,M⟩,⟨aq,ar,aD,aE,aF,aG,aI,aJ,aK,aL,au,av,aA,aC⟩,s,l,aZ,bw,A⟩:=hst;constructor
 ·iterate 24 refine⟨?_,fun K z=> ?_⟩
  ·trivial
  all_goals try (go_simp;exact z _ aP.out;done)
  ·go_simp
   exact aw (bN.out k) fun wc aO=>z _ (aP.out.below aO)
  go_simp;exact aw (bk.out k) fun wc aO=>z _ (aP.out.below aO)
 have a4:=R A;clear A
 go_wp2_with fail
 obtain⟨cy,rfl⟩:=ai k;refine dR (fin:= ?z12) [cC x, aa S, aa S,cC y, aa Q, aa Q, aa Q,U,U,U,U,U, aa Q, aa Q,U,U,U,U,U,U,U,U,U,U,U,U,U,U,U,U,U,U,U,U,U,U,U,U,U,U,U,U,U,U,U,U,U, aa Q] (fun k=>ed aS w.heap.size x y x.an y.an ao ap x.an.toNat y.ay aM am bg am k) ?hf bp (by kernel_rfl) rfl ⟨⟨E,G,N,P,T,ad,ae,ah,ak,al,I,J,L,M⟩,⟨aq,ar,aD,aE,aF,aG,aI,aJ,aK,aL,au,av,aA,aC⟩,s,l,aZ,l,a4.out.drew⟩ fun k hst=> ?_;case hf=>simp only[aT,a6,bd,ba,bc];exact rfl
 have bj:=R hst;obtain⟨⟨E,G,N,P,T,ad,ae,ah,ak,al,I,J,L,M⟩,⟨aq,ar,aD,aE,aF,aG,aI,aJ,aK,aL,au,av,aA,aC⟩,s,l,aZ,bw,A⟩:=hst;constructor
 ·iterate 48 refine⟨?_,fun K z=> ?_⟩
  ·trivial
  all_goals try (go_simp;exact z _ bj.out;done)
  ·go_simp
   exact aw (bR.out k) fun wc aO=>z _ (bj.out.below aO)
  go_simp;exact aw (bk.out k) fun wc aO=>z _ (bj.out.below aO)
 have bA:=R (ax bl.out A);have bq:bE=0:=by
  rw[bB.out];rw[bo,bL,bn,bK];simp
 have bD:=R bq;clear bq A;go_wp2;go_ret;exact⟨ez bD.out.symm,bA.out⟩
end
end Go.Proofs.YteaeipgfjmnecaaGreatDoor

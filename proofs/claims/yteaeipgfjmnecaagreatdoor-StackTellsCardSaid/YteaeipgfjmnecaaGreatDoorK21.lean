/- Lemmas; each says its own conditions. -/
import Derived.Test.YteaeipgfjmnecaaGreatDoorK20
open Bool renaming false->Q,true->S
open Decidable renaming decide->au
open Go renaming World->ac,heap_alloc_new->aQ,undef->U
open Go.Act renaming put->a6
open Int renaming toNat_of_nonneg->jp
open Go.IntKind renaming i64->o
open List renaming getElem?_cons_succ->cO,getElem?_cons_zero->cU,getElem?_toArray->cP,setIfInBounds_toArray->bd,set_cons_succ->ba,set_cons_zero->bc
open Go.Obj renaming cells->Y
open Option renaming none->F,some->D
open Go.Proofs.Tryz renaming prog->aj
open Go.Value renaming bool->aa,int->B,pointer->ad,slice->O
namespace Go.Proofs.YteaeipgfjmnecaaGreatDoor
set_option linter.unusedSimpArgs false
set_option linter.unusedVariables false
set_option maxHeartbeats 12800000
section
set_option maxRecDepth 100000
open Go.RowKit Go.Maps
theorem xs(x y:bU)(h:List Int)(k l n aU:Nat)(w:ac)(hh:Rd w 1 (D ⟨k,l,F⟩) n (bF h))(h0:∀i:Nat,i < n->0<=be h i)(a4:x.ay < n)(a5:y.ay < n)(bG:(0:Int)<=x.an)(b5:x.an < (n:Int))(bq:x.goes=S)(bt:x.fold=Q)(bH:(0:Int)<=y.an)(b7:y.an < (n:Int))(br:y.goes=S)(bO:y.fold=Q)(hn:n<=140737488351232):
  Calls aj 36 #[cC x,cC y, O (D ⟨k,l,F⟩) n aU] w fun r Z=>r= .returned (B o (dw h x y))/\Below w.heap.size w Z:=by
 have bI:=aQ w (Y #[B o x.e.1, B o x.e.2.1, B o x.e.2.2.1, B o x.e.2.2.2, B o (x.ay:Int), B o x.pl.1, B o x.pl.2.1, B o x.pl.2.2, B o x.an, B o x.aH.1, B o x.aH.2.1, B o x.aH.2.2, B o x.kind, aa x.over] 89);have z:=aW bI (Y #[B o y.e.1, B o y.e.2.1, B o y.e.2.2.1, B o y.e.2.2.2, B o (y.ay:Int), B o y.pl.1, B o y.pl.2.1, B o y.pl.2.2, B o y.an, B o y.aH.1, B o y.aH.2.1, B o y.aH.2.2, B o y.kind, aa y.over] 89);have bs:=aQ (w.alloc (Y #[B o x.e.1, B o x.e.2.1, B o x.e.2.2.1, B o x.e.2.2.2, B o (x.ay:Int), B o x.pl.1, B o x.pl.2.1, B o x.pl.2.2, B o x.an, B o x.aH.1, B o x.aH.2.1, B o x.aH.2.2, B o x.kind, aa x.over] 89)) (Y #[B o y.e.1, B o y.e.2.1, B o y.e.2.2.1, B o y.e.2.2.2, B o (y.ay:Int), B o y.pl.1, B o y.pl.2.1, B o y.pl.2.2, B o y.an, B o y.aH.1, B o y.aH.2.1, B o y.aH.2.2, B o y.kind, aa y.over] 89)
 rw[World.size_alloc] at bs;have bo:=aN (aV w (Y #[B o x.e.1, B o x.e.2.1, B o x.e.2.2.1, B o x.e.2.2.2, B o (x.ay:Int), B o x.pl.1, B o x.pl.2.1, B o x.pl.2.2, B o x.an, B o x.aH.1, B o x.aH.2.1, B o x.aH.2.2, B o x.kind, aa x.over] 89)) (Y #[B o y.e.1, B o y.e.2.1, B o y.e.2.2.1, B o y.e.2.2.2, B o (y.ay:Int), B o y.pl.1, B o y.pl.2.1, B o y.pl.2.2, B o y.an, B o y.aH.1, B o y.aH.2.1, B o y.aH.2.2, B o y.kind, aa y.over] 89);have M:=aB z 0;have N:=aB z 1;have ae:=aB z 2;have af:=aB z 3;have ag:=aB z 4;have ah:=aB z 5;have ak:=aB z 6;have al:=aB z 7;have am:=aB z 8;have ao:=aB z 9
 have P:=aB z 10;have T:=aB z 11;have V:=aB z 12;have ab:=aB z 13;obtain⟨ap,aq,aD,aE,aF,aG,aI,aJ,aK,aL,ar,av,az,aA⟩:=hw bs;simp only[cP,cU,cO] at M N ae af ag ah ak al am ao P T V ab;have a3:=hh.below bo;have J:=er a3 a4;have L:=er a3 a5;have bQ:=h0 _ a4;have bR:=h0 _ a5;have bi:=fun W:ac=>gV x W;have bj:=fun W:ac=>gV y W;have bg:=fun W:ac=>gz x W;have bh:=fun W:ac=>gz y W;have bA:=fun(a b c:Int) (W:ac)=>kV a b c W;obtain⟨bz,a2⟩:=ai (dw h x y);rw[<-a2];unfold dw at a2;obtain⟨bx,a9,bw,bf,bV,bW⟩:=ft a2 bo h0 a3 a4 a5;obtain⟨aR,bk⟩:=ai (be h (x.ay:Int))
 obtain⟨aS,bm⟩:=ai (be h (y.ay:Int));rw[<-bk] at J bQ;rw[<-bm] at L bR;obtain⟨bJ,bL⟩:=aY bk bm;have b8:(0:Int)<=(x.ay:Int):=by omega
 have ca:(0:Int)<=(y.ay:Int):=by omega
 have b9:(x.ay:Int) < (n:Int):=by omega
 have cb:(y.ay:Int) < (n:Int):=by omega
 have bY:¬aR < 0:=by omega
 have b2:¬aS < 0:=by omega
 clear bI z bs bo a3 hh h0 a2 a4 a5 bk bm;have b4:x.an≥0:=bG;have bD:((x.an.toNat:Nat):Int)=x.an:=jp bG;have E:=er bf.out (show x.an.toNat < n by omega);have bB:=bw.out x.an.toNat (by omega);rw[bD] at E bB;obtain⟨aO,bl⟩:=ai (be h x.an);rw[<-bl] at E bB;have bK:=R bl;have bZ:¬aO < 0:=by omega
 clear bl bD;have b6:y.an≥0:=bH;have bE:((y.an.toNat:Nat):Int)=y.an:=jp bH;have G:=er bf.out (show y.an.toNat < n by omega);have bC:=bw.out y.an.toNat (by omega);rw[bE] at G bC;obtain⟨aP,bn⟩:=ai (be h y.an);rw[<-bn] at G bC;have bM:=R bn;have b3:¬aP < 0:=by omega
 clear bn bE;simp only[bq] at bi;simp only[bt] at bg;simp only[br] at bj;simp only[bO] at bh;go_in
 go_wp2_with fail
 generalize (w.alloc (Y #[B o x.e.1, B o x.e.2.1, B o x.e.2.2.1, B o x.e.2.2.2, B o (x.ay:Int), B o x.pl.1, B o x.pl.2.1, B o x.pl.2.2, B o x.an, B o x.aH.1, B o x.aH.2.1, B o x.aH.2.2, B o x.kind, aa x.over] 89)).alloc (Y #[B o y.e.1, B o y.e.2.1, B o y.e.2.2.1, B o y.e.2.2.2, B o (y.ay:Int), B o y.pl.1, B o y.pl.2.1, B o y.pl.2.2, B o y.an, B o y.aH.1, B o y.aH.2.1, B o y.aH.2.2, B o y.kind, aa y.over] 89)=w1 at M N ae af ag ah ak al am ao P T V ab ap aq aD aE aF aG aI aJ aK aL ar av az aA J L E G a9 bf |-;obtain⟨bu,bv,a7,bT,bS⟩:=dY bi bj bg bh bA;clear bi bj bg bh bA;by_cases b1:aR < aS
 ·have bN:=R b1
  by_cases aC:aP < aO
  ·have bX:aO > aP:=aC
   have bP:=R aC;refine dR (fin:= ?z1) [cC x, aa S, aa S,cC y, aa S, aa S, aa S, O (D ⟨k,l,F⟩) n aU, ad (D ⟨w.heap.size,4,F⟩), B o (x.ay:Int), ad (D ⟨k,l+x.ay,F⟩), B o aR, O (D ⟨k,l,F⟩) n aU, ad (D ⟨w.heap.size+1,4,F⟩), B o (y.ay:Int), ad (D ⟨k,l+y.ay,F⟩), B o aS, aa S, aa S, aa S, O (D ⟨k,l,F⟩) n aU, ad (D ⟨w.heap.size,8,F⟩), B o x.an, ad (D ⟨k,l+x.an.toNat,F⟩), B o aO, O (D ⟨k,l,F⟩) n aU, ad (D ⟨w.heap.size+1,8,F⟩), B o y.an, ad (D ⟨k,l+y.an.toNat,F⟩), B o aP, aa S, aa S] (fun g=>ed w1 w.heap.size x y x.an y.an k l x.an.toNat y.an.toNat aR aS aO aP g) ?hf bp (by kernel_rfl) rfl ⟨⟨M,N,ae,af,ag,ah,ak,al,am,ao,P,T,V,ab⟩,⟨ap,aq,aD,aE,aF,aG,aI,aJ,aK,aL,ar,av,az,aA⟩,J,L,E,G,aX.drew⟩ fun g hst=> ?_
   case hf=>simp only[aT,a6,bd,ba,bc];exact rfl
   have aZ:=R hst;obtain⟨⟨M,N,ae,af,ag,ah,ak,al,am,ao,P,T,V,ab⟩,⟨ap,aq,aD,aE,aF,aG,aI,aJ,aK,aL,ar,av,az,aA⟩,J,L,E,G,A⟩:=hst;constructor
   ·iterate 32 refine⟨?_,fun K s=> ?_⟩
    ·trivial
    all_goals try (go_simp;exact s _ aZ.out;done)
    ·go_simp
     exact aw (bv.out g) fun wc I=>s _ (aZ.out.below I)
    go_simp;exact aw (bu.out g) fun wc I=>s _ (aZ.out.below I)
   have a8:=R (ax a9.out A);have a1:bz=1:=by
    rw[bx.out];rw[<-bJ.out,<-bL.out,<-bK.out,<-bM.out,bq,br,decide_eq_true bN.out,decide_eq_true bP.out];rfl
   have bb:=R a1;clear a1 A;go_wp2;go_ret;exact⟨ez bb.out.symm,a8.out⟩
  have bX:¬aO > aP:=aC;have bP:=R aC;refine dR (fin:= ?z2) [cC x, aa S, aa S,cC y, aa S, aa S, aa S, O (D ⟨k,l,F⟩) n aU, ad (D ⟨w.heap.size,4,F⟩), B o (x.ay:Int), ad (D ⟨k,l+x.ay,F⟩), B o aR, O (D ⟨k,l,F⟩) n aU, ad (D ⟨w.heap.size+1,4,F⟩), B o (y.ay:Int), ad (D ⟨k,l+y.ay,F⟩), B o aS, aa S, aa S, aa S, O (D ⟨k,l,F⟩) n aU, ad (D ⟨w.heap.size,8,F⟩), B o x.an, ad (D ⟨k,l+x.an.toNat,F⟩), B o aO, O (D ⟨k,l,F⟩) n aU, ad (D ⟨w.heap.size+1,8,F⟩), B o y.an, ad (D ⟨k,l+y.an.toNat,F⟩), B o aP, aa Q, aa Q] (fun g=>ed w1 w.heap.size x y x.an y.an k l x.an.toNat y.an.toNat aR aS aO aP g) ?hf bp (by kernel_rfl) rfl ⟨⟨M,N,ae,af,ag,ah,ak,al,am,ao,P,T,V,ab⟩,⟨ap,aq,aD,aE,aF,aG,aI,aJ,aK,aL,ar,av,az,aA⟩,J,L,E,G,aX.drew⟩ fun g hst=> ?_
  case hf=>simp only[aT,a6,bd,ba,bc];exact rfl
  have aM:=R hst;obtain⟨⟨M,N,ae,af,ag,ah,ak,al,am,ao,P,T,V,ab⟩,⟨ap,aq,aD,aE,aF,aG,aI,aJ,aK,aL,ar,av,az,aA⟩,J,L,E,G,A⟩:=hst;constructor
  ·iterate 32 refine⟨?_,fun K s=> ?_⟩
   ·trivial
   all_goals try (go_simp;exact s _ aM.out;done)
   ·go_simp
    exact aw (bv.out g) fun wc I=>s _ (aM.out.below I)
   go_simp;exact aw (bu.out g) fun wc I=>s _ (aM.out.below I)
  have a0:=R A;clear A
  go_wp2_with fail
  obtain⟨cd,rfl⟩:=ai g;refine dR (fin:= ?z3) [cC x, aa Q, aa Q,U,U, aa Q, aa Q,U,U,U,U,U,U,U,U,U,U,U,U,U,U,U,U, aa Q] (fun g=>ed w1 w.heap.size x y x.an y.an k l x.an.toNat y.an.toNat aR aS aO aP g) ?hf bp (by kernel_rfl) rfl ⟨⟨M,N,ae,af,ag,ah,ak,al,am,ao,P,T,V,ab⟩,⟨ap,aq,aD,aE,aF,aG,aI,aJ,aK,aL,ar,av,az,aA⟩,J,L,E,G,a0.out.drew⟩ fun g hst=> ?_;case hf=>simp only[aT,a6,bd,ba,bc];exact rfl
  have aM:=R hst;obtain⟨⟨M,N,ae,af,ag,ah,ak,al,am,ao,P,T,V,ab⟩,⟨ap,aq,aD,aE,aF,aG,aI,aJ,aK,aL,ar,av,az,aA⟩,J,L,E,G,A⟩:=hst;constructor
  ·iterate 24 refine⟨?_,fun K s=> ?_⟩
   ·trivial
   all_goals try (go_simp;exact s _ aM.out;done)
   go_simp;exact aw (a7.out g) fun wc I=>s _ (aM.out.below I)
  have a0:=R A;clear A
  go_wp2_with fail
  obtain⟨ce,rfl⟩:=ai g;refine dR (fin:= ?z4) [cC x, aa Q, aa Q,U,U, aa Q, aa Q,U,U,U,U,U, aa Q, aa Q,U,U,U,U,U,U,U,U,U,U,U,U,U,U,U,U,U,U,U,U,U,U,U,U,U,U,U,U,U,U,U,U,U, aa Q] (fun g=>ed w1 w.heap.size x y x.an y.an k l x.an.toNat y.an.toNat aR aS aO aP g) ?hf bp (by kernel_rfl) rfl ⟨⟨M,N,ae,af,ag,ah,ak,al,am,ao,P,T,V,ab⟩,⟨ap,aq,aD,aE,aF,aG,aI,aJ,aK,aL,ar,av,az,aA⟩,J,L,E,G,a0.out.drew⟩ fun g hst=> ?_;case hf=>simp only[aT,a6,bd,ba,bc];exact rfl
  have aZ:=R hst;obtain⟨⟨M,N,ae,af,ag,ah,ak,al,am,ao,P,T,V,ab⟩,⟨ap,aq,aD,aE,aF,aG,aI,aJ,aK,aL,ar,av,az,aA⟩,J,L,E,G,A⟩:=hst;constructor
  ·iterate 48 refine⟨?_,fun K s=> ?_⟩
   ·trivial
   all_goals try (go_simp;exact s _ aZ.out;done)
   go_simp;exact aw (a7.out g) fun wc I=>s _ (aZ.out.below I)
  have a8:=R (ax a9.out A);have a1:bz=0:=by
   rw[bx.out];rw[<-bJ.out,<-bL.out,<-bK.out,<-bM.out,bq,br,bt,decide_eq_true bN.out,show au (aP < aO)=Q from decide_eq_false (by have:=bP.out;omega)];rfl
  have bb:=R a1;clear a1 A;go_wp2;go_ret;exact⟨ez bb.out.symm,a8.out⟩
 have bN:=R b1;refine dR (fin:= ?z5) [cC x, aa S, aa S,cC y, aa S, aa S, aa S, O (D ⟨k,l,F⟩) n aU, ad (D ⟨w.heap.size,4,F⟩), B o (x.ay:Int), ad (D ⟨k,l+x.ay,F⟩), B o aR, O (D ⟨k,l,F⟩) n aU, ad (D ⟨w.heap.size+1,4,F⟩), B o (y.ay:Int), ad (D ⟨k,l+y.ay,F⟩), B o aS, aa Q, aa Q, aa Q,U,U,U,U,U,U,U,U,U,U,U, aa Q] (fun g=>ed w1 w.heap.size x y x.an y.an k l x.an.toNat y.an.toNat aR aS aO aP g) ?hf bp (by kernel_rfl) rfl ⟨⟨M,N,ae,af,ag,ah,ak,al,am,ao,P,T,V,ab⟩,⟨ap,aq,aD,aE,aF,aG,aI,aJ,aK,aL,ar,av,az,aA⟩,J,L,E,G,aX.drew⟩ fun g hst=> ?_
 case hf=>simp only[aT,a6,bd,ba,bc];exact rfl
 have aM:=R hst;obtain⟨⟨M,N,ae,af,ag,ah,ak,al,am,ao,P,T,V,ab⟩,⟨ap,aq,aD,aE,aF,aG,aI,aJ,aK,aL,ar,av,az,aA⟩,J,L,E,G,A⟩:=hst;constructor
 ·iterate 32 refine⟨?_,fun K s=> ?_⟩
  ·trivial
  all_goals try (go_simp;exact s _ aM.out;done)
  ·go_simp
   exact aw (bv.out g) fun wc I=>s _ (aM.out.below I)
  go_simp;exact aw (bu.out g) fun wc I=>s _ (aM.out.below I)
 have a0:=R A;clear A
 go_wp2_with fail
 obtain⟨cf,rfl⟩:=ai g;refine dR (fin:= ?z6) [cC x, aa Q, aa Q,U,U, aa Q, aa Q,U,U,U,U,U,U,U,U,U,U,U,U,U,U,U,U, aa Q] (fun g=>ed w1 w.heap.size x y x.an y.an k l x.an.toNat y.an.toNat aR aS aO aP g) ?hf bp (by kernel_rfl) rfl ⟨⟨M,N,ae,af,ag,ah,ak,al,am,ao,P,T,V,ab⟩,⟨ap,aq,aD,aE,aF,aG,aI,aJ,aK,aL,ar,av,az,aA⟩,J,L,E,G,a0.out.drew⟩ fun g hst=> ?_;case hf=>simp only[aT,a6,bd,ba,bc];exact rfl
 have aM:=R hst;obtain⟨⟨M,N,ae,af,ag,ah,ak,al,am,ao,P,T,V,ab⟩,⟨ap,aq,aD,aE,aF,aG,aI,aJ,aK,aL,ar,av,az,aA⟩,J,L,E,G,A⟩:=hst;constructor
 ·iterate 24 refine⟨?_,fun K s=> ?_⟩
  ·trivial
  all_goals try (go_simp;exact s _ aM.out;done)
  go_simp;exact aw (a7.out g) fun wc I=>s _ (aM.out.below I)
 have a0:=R A;clear A
 go_wp2_with fail
 obtain⟨cg,rfl⟩:=ai g;refine dR (fin:= ?z7) [cC x, aa Q, aa Q,U,U, aa Q, aa Q,U,U,U,U,U, aa Q, aa Q,U,U,U,U,U,U,U,U,U,U,U,U,U,U,U,U,U,U,U,U,U,U,U,U,U,U,U,U,U,U,U,U,U, aa Q] (fun g=>ed w1 w.heap.size x y x.an y.an k l x.an.toNat y.an.toNat aR aS aO aP g) ?hf bp (by kernel_rfl) rfl ⟨⟨M,N,ae,af,ag,ah,ak,al,am,ao,P,T,V,ab⟩,⟨ap,aq,aD,aE,aF,aG,aI,aJ,aK,aL,ar,av,az,aA⟩,J,L,E,G,a0.out.drew⟩ fun g hst=> ?_;case hf=>simp only[aT,a6,bd,ba,bc];exact rfl
 have aZ:=R hst;obtain⟨⟨M,N,ae,af,ag,ah,ak,al,am,ao,P,T,V,ab⟩,⟨ap,aq,aD,aE,aF,aG,aI,aJ,aK,aL,ar,av,az,aA⟩,J,L,E,G,A⟩:=hst;constructor
 ·iterate 48 refine⟨?_,fun K s=> ?_⟩
  ·trivial
  all_goals try (go_simp;exact s _ aZ.out;done)
  go_simp;exact aw (a7.out g) fun wc I=>s _ (aZ.out.below I)
 have a8:=R (ax a9.out A);have a1:bz=0:=by
  rw[bx.out];rw[<-bJ.out,<-bL.out,<-bK.out,<-bM.out,bq,br,bt,show au (aR < aS)=Q from decide_eq_false (by have:=bN.out;omega)];rfl
 have bb:=R a1;clear a1 A;go_wp2;go_ret;exact⟨ez bb.out.symm,a8.out⟩
theorem xr(x y:bU)(h:List Int)(k l n aU:Nat)(w:ac)(hh:Rd w 1 (D ⟨k,l,F⟩) n (bF h))(h0:∀i:Nat,i < n->0<=be h i)(a4:x.ay < n)(a5:y.ay < n)(bG:(0:Int)<=x.an)(b5:x.an < (n:Int))(bq:x.goes=S)(bt:x.fold=Q)(bH:(0:Int)<=y.an)(b7:y.an < (n:Int))(br:y.goes=Q)(bO:y.fold=S)(hn:n<=140737488351232):
  Calls aj 36 #[cC x,cC y, O (D ⟨k,l,F⟩) n aU] w fun r Z=>r= .returned (B o (dw h x y))/\Below w.heap.size w Z:=by
 have bI:=aQ w (Y #[B o x.e.1, B o x.e.2.1, B o x.e.2.2.1, B o x.e.2.2.2, B o (x.ay:Int), B o x.pl.1, B o x.pl.2.1, B o x.pl.2.2, B o x.an, B o x.aH.1, B o x.aH.2.1, B o x.aH.2.2, B o x.kind, aa x.over] 89);have z:=aW bI (Y #[B o y.e.1, B o y.e.2.1, B o y.e.2.2.1, B o y.e.2.2.2, B o (y.ay:Int), B o y.pl.1, B o y.pl.2.1, B o y.pl.2.2, B o y.an, B o y.aH.1, B o y.aH.2.1, B o y.aH.2.2, B o y.kind, aa y.over] 89);have bs:=aQ (w.alloc (Y #[B o x.e.1, B o x.e.2.1, B o x.e.2.2.1, B o x.e.2.2.2, B o (x.ay:Int), B o x.pl.1, B o x.pl.2.1, B o x.pl.2.2, B o x.an, B o x.aH.1, B o x.aH.2.1, B o x.aH.2.2, B o x.kind, aa x.over] 89)) (Y #[B o y.e.1, B o y.e.2.1, B o y.e.2.2.1, B o y.e.2.2.2, B o (y.ay:Int), B o y.pl.1, B o y.pl.2.1, B o y.pl.2.2, B o y.an, B o y.aH.1, B o y.aH.2.1, B o y.aH.2.2, B o y.kind, aa y.over] 89)
 rw[World.size_alloc] at bs;have bo:=aN (aV w (Y #[B o x.e.1, B o x.e.2.1, B o x.e.2.2.1, B o x.e.2.2.2, B o (x.ay:Int), B o x.pl.1, B o x.pl.2.1, B o x.pl.2.2, B o x.an, B o x.aH.1, B o x.aH.2.1, B o x.aH.2.2, B o x.kind, aa x.over] 89)) (Y #[B o y.e.1, B o y.e.2.1, B o y.e.2.2.1, B o y.e.2.2.2, B o (y.ay:Int), B o y.pl.1, B o y.pl.2.1, B o y.pl.2.2, B o y.an, B o y.aH.1, B o y.aH.2.1, B o y.aH.2.2, B o y.kind, aa y.over] 89);have M:=aB z 0;have N:=aB z 1;have ae:=aB z 2;have af:=aB z 3;have ag:=aB z 4;have ah:=aB z 5;have ak:=aB z 6;have al:=aB z 7;have am:=aB z 8;have ao:=aB z 9
 have P:=aB z 10;have T:=aB z 11;have V:=aB z 12;have ab:=aB z 13;obtain⟨ap,aq,aD,aE,aF,aG,aI,aJ,aK,aL,ar,av,az,aA⟩:=hw bs;simp only[cP,cU,cO] at M N ae af ag ah ak al am ao P T V ab;have a3:=hh.below bo;have J:=er a3 a4;have L:=er a3 a5;have bQ:=h0 _ a4;have bR:=h0 _ a5;have bi:=fun W:ac=>gV x W;have bj:=fun W:ac=>gV y W;have bg:=fun W:ac=>gz x W;have bh:=fun W:ac=>gz y W;have bA:=fun(a b c:Int) (W:ac)=>kV a b c W;obtain⟨bz,a2⟩:=ai (dw h x y);rw[<-a2];unfold dw at a2;obtain⟨bx,a9,bw,bf,bV,bW⟩:=ft a2 bo h0 a3 a4 a5;obtain⟨aR,bk⟩:=ai (be h (x.ay:Int))
 obtain⟨aS,bm⟩:=ai (be h (y.ay:Int));rw[<-bk] at J bQ;rw[<-bm] at L bR;obtain⟨bJ,bL⟩:=aY bk bm;have b8:(0:Int)<=(x.ay:Int):=by omega
 have ca:(0:Int)<=(y.ay:Int):=by omega
 have b9:(x.ay:Int) < (n:Int):=by omega
 have cb:(y.ay:Int) < (n:Int):=by omega
 have bY:¬aR < 0:=by omega
 have b2:¬aS < 0:=by omega
 clear bI z bs bo a3 hh h0 a2 a4 a5 bk bm;have b4:x.an≥0:=bG;have bD:((x.an.toNat:Nat):Int)=x.an:=jp bG;have E:=er bf.out (show x.an.toNat < n by omega);have bB:=bw.out x.an.toNat (by omega);rw[bD] at E bB;obtain⟨aO,bl⟩:=ai (be h x.an);rw[<-bl] at E bB;have bK:=R bl;have bZ:¬aO < 0:=by omega
 clear bl bD;have b6:y.an≥0:=bH;have bE:((y.an.toNat:Nat):Int)=y.an:=jp bH;have G:=er bf.out (show y.an.toNat < n by omega);have bC:=bw.out y.an.toNat (by omega);rw[bE] at G bC;obtain⟨aP,bn⟩:=ai (be h y.an);rw[<-bn] at G bC;have bM:=R bn;have b3:¬aP < 0:=by omega
 clear bn bE;simp only[bq] at bi;simp only[bt] at bg;simp only[br] at bj;simp only[bO] at bh;go_in
 go_wp2_with fail
 generalize (w.alloc (Y #[B o x.e.1, B o x.e.2.1, B o x.e.2.2.1, B o x.e.2.2.2, B o (x.ay:Int), B o x.pl.1, B o x.pl.2.1, B o x.pl.2.2, B o x.an, B o x.aH.1, B o x.aH.2.1, B o x.aH.2.2, B o x.kind, aa x.over] 89)).alloc (Y #[B o y.e.1, B o y.e.2.1, B o y.e.2.2.1, B o y.e.2.2.2, B o (y.ay:Int), B o y.pl.1, B o y.pl.2.1, B o y.pl.2.2, B o y.an, B o y.aH.1, B o y.aH.2.1, B o y.aH.2.2, B o y.kind, aa y.over] 89)=w1 at M N ae af ag ah ak al am ao P T V ab ap aq aD aE aF aG aI aJ aK aL ar av az aA J L E G a9 bf |-;obtain⟨bu,bv,a7,bT,bS⟩:=dY bi bj bg bh bA;clear bi bj bg bh bA;refine dR (fin:= ?z8) [cC x, aa S, aa S,cC y, aa Q, aa Q, aa Q,U,U,U,U,U,U,U,U,U,U,U, aa Q, aa Q,U,U,U,U,U,U,U,U,U,U,U, aa Q] (fun g=>ed w1 w.heap.size x y x.an y.an k l x.an.toNat y.an.toNat aR aS aO aP g) ?hf bp (by kernel_rfl) rfl ⟨⟨M,N,ae,af,ag,ah,ak,al,am,ao,P,T,V,ab⟩,⟨ap,aq,aD,aE,aF,aG,aI,aJ,aK,aL,ar,av,az,aA⟩,J,L,E,G,aX.drew⟩ fun g hst=> ?_
 case hf=>simp only[aT,a6,bd,ba,bc];exact rfl
 have aM:=R hst;obtain⟨⟨M,N,ae,af,ag,ah,ak,al,am,ao,P,T,V,ab⟩,⟨ap,aq,aD,aE,aF,aG,aI,aJ,aK,aL,ar,av,az,aA⟩,J,L,E,G,A⟩:=hst;constructor
 ·iterate 32 refine⟨?_,fun K s=> ?_⟩
  ·trivial
  all_goals try (go_simp;exact s _ aM.out;done)
  ·go_simp
   exact aw (bv.out g) fun wc I=>s _ (aM.out.below I)
  go_simp;exact aw (bu.out g) fun wc I=>s _ (aM.out.below I)
 have a0:=R A;clear A
 go_wp2_with fail
 obtain⟨ch,rfl⟩:=ai g;refine dR (fin:= ?z9) [cC x, aa Q, aa Q,U,U, aa Q, aa Q,U,U,U,U,U,U,U,U,U,U,U,U,U,U,U,U, aa Q] (fun g=>ed w1 w.heap.size x y x.an y.an k l x.an.toNat y.an.toNat aR aS aO aP g) ?hf bp (by kernel_rfl) rfl ⟨⟨M,N,ae,af,ag,ah,ak,al,am,ao,P,T,V,ab⟩,⟨ap,aq,aD,aE,aF,aG,aI,aJ,aK,aL,ar,av,az,aA⟩,J,L,E,G,a0.out.drew⟩ fun g hst=> ?_;case hf=>simp only[aT,a6,bd,ba,bc];exact rfl
 have aM:=R hst;obtain⟨⟨M,N,ae,af,ag,ah,ak,al,am,ao,P,T,V,ab⟩,⟨ap,aq,aD,aE,aF,aG,aI,aJ,aK,aL,ar,av,az,aA⟩,J,L,E,G,A⟩:=hst;constructor
 ·iterate 24 refine⟨?_,fun K s=> ?_⟩
  ·trivial
  all_goals try (go_simp;exact s _ aM.out;done)
  go_simp;exact aw (a7.out g) fun wc I=>s _ (aM.out.below I)
 have a0:=R A;clear A
 go_wp2_with fail
 obtain⟨ci,rfl⟩:=ai g;refine dR (fin:= ?z10) [cC x, aa Q, aa Q,U,U, aa Q, aa Q,U,U,U,U,U, aa Q, aa Q,U,U,U,U,U,U,U,U,U,U,U,U,U,U,U,U,U,U,U,U,U,U,U,U,U,U,U,U,U,U,U,U,U, aa Q] (fun g=>ed w1 w.heap.size x y x.an y.an k l x.an.toNat y.an.toNat aR aS aO aP g) ?hf bp (by kernel_rfl) rfl ⟨⟨M,N,ae,af,ag,ah,ak,al,am,ao,P,T,V,ab⟩,⟨ap,aq,aD,aE,aF,aG,aI,aJ,aK,aL,ar,av,az,aA⟩,J,L,E,G,a0.out.drew⟩ fun g hst=> ?_;case hf=>simp only[aT,a6,bd,ba,bc];exact rfl
 have aZ:=R hst;obtain⟨⟨M,N,ae,af,ag,ah,ak,al,am,ao,P,T,V,ab⟩,⟨ap,aq,aD,aE,aF,aG,aI,aJ,aK,aL,ar,av,az,aA⟩,J,L,E,G,A⟩:=hst;constructor
 ·iterate 48 refine⟨?_,fun K s=> ?_⟩
  ·trivial
  all_goals try (go_simp;exact s _ aZ.out;done)
  go_simp;exact aw (a7.out g) fun wc I=>s _ (aZ.out.below I)
 have a8:=R (ax a9.out A);have a1:bz=0:=by
  rw[bx.out];rw[bq,br,bt,bO];simp
 have bb:=R a1;clear a1 A;go_wp2;go_ret;exact⟨ez bb.out.symm,a8.out⟩
end
end Go.Proofs.YteaeipgfjmnecaaGreatDoor

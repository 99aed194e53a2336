/- Lemmas; each says its own conditions. -/
import Derived.Test.YteaeipgfjmnecaaGreatDoorK21
open Bool renaming and_false->dJ,false->Q,not_false->lk,not_true->ll,true->S
open Classical renaming byContradiction->mr
open Decidable renaming decide->au
open Go renaming Value->ae,World->ac,heap_alloc_new->aQ,undef->U
open Go.Act renaming put->a6
open Go.IntKind renaming i64->b7
open Go.IntWalk renaming i64_in->ca
open Int renaming eq_ofNat_of_zero_le->lo,toNat_of_nonneg->jp
open Go.IntKind renaming i64->o
open List renaming getElem?_cons_succ->cO,getElem?_cons_zero->cU,getElem?_eq_getElem->bb,getElem?_toArray->cP,range->c4,setIfInBounds_toArray->bd,set_cons_succ->ba,set_cons_zero->bc
open Go.Obj renaming cells->Y
open Option renaming none->F,some->D
open Go.Proofs.Tryz renaming prog->aj
open Go.Value renaming agg->aq,bool->aa,int->B,pointer->ad,slice->O
namespace Go.Proofs.YteaeipgfjmnecaaGreatDoor
set_option linter.unusedSimpArgs false
set_option linter.unusedVariables false
set_option maxHeartbeats 12800000
section
set_option maxRecDepth 100000
open Go.RowKit Go.Maps
theorem xp(x y:bU)(h:List Int)(s z n a2:Nat)(w:ac)(hh:Rd w 1 (D ⟨s,z,F⟩) n (bF h))(h0:∀i:Nat,i < n->0<=be h i)(a9:x.ay < n)(bf:y.ay < n)(bP:(0:Int)<=x.an)(cl:x.an < (n:Int))(bj:x.goes=Q)(bi:x.fold=S)(bQ:(0:Int)<=y.an)(co:y.an < (n:Int))(bk:y.goes=S)(bA:y.fold=Q)(hn:n<=140737488351232):
  Calls aj 36 #[cC x,cC y, O (D ⟨s,z,F⟩) n a2] w fun r Z=>r= .returned (B o (dw h x y))/\Below w.heap.size w Z:=by
 have bR:=aQ w (Y #[B o x.e.1, B o x.e.2.1, B o x.e.2.2.1, B o x.e.2.2.2, B o (x.ay:Int), B o x.pl.1, B o x.pl.2.1, B o x.pl.2.2, B o x.an, B o x.aH.1, B o x.aH.2.1, B o x.aH.2.2, B o x.kind, aa x.over] 89);have l:=aW bR (Y #[B o y.e.1, B o y.e.2.1, B o y.e.2.2.1, B o y.e.2.2.2, B o (y.ay:Int), B o y.pl.1, B o y.pl.2.1, B o y.pl.2.2, B o y.an, B o y.aH.1, B o y.aH.2.1, B o y.aH.2.2, B o y.kind, aa y.over] 89);have bB:=aQ (w.alloc (Y #[B o x.e.1, B o x.e.2.1, B o x.e.2.2.1, B o x.e.2.2.2, B o (x.ay:Int), B o x.pl.1, B o x.pl.2.1, B o x.pl.2.2, B o x.an, B o x.aH.1, B o x.aH.2.1, B o x.aH.2.2, B o x.kind, aa x.over] 89)) (Y #[B o y.e.1, B o y.e.2.1, B o y.e.2.2.1, B o y.e.2.2.2, B o (y.ay:Int), B o y.pl.1, B o y.pl.2.1, B o y.pl.2.2, B o y.an, B o y.aH.1, B o y.aH.2.1, B o y.aH.2.2, B o y.kind, aa y.over] 89)
 rw[World.size_alloc] at bB;have bz:=aN (aV w (Y #[B o x.e.1, B o x.e.2.1, B o x.e.2.2.1, B o x.e.2.2.2, B o (x.ay:Int), B o x.pl.1, B o x.pl.2.1, B o x.pl.2.2, B o x.an, B o x.aH.1, B o x.aH.2.1, B o x.aH.2.2, B o x.kind, aa x.over] 89)) (Y #[B o y.e.1, B o y.e.2.1, B o y.e.2.2.1, B o y.e.2.2.2, B o (y.ay:Int), B o y.pl.1, B o y.pl.2.1, B o y.pl.2.2, B o y.an, B o y.aH.1, B o y.aH.2.1, B o y.aH.2.2, B o y.kind, aa y.over] 89);have T:=aB l 0;have V:=aB l 1;have ak:=aB l 2;have al:=aB l 3;have am:=aB l 4;have ao:=aB l 5;have ap:=aB l 6;have ar:=aB l 7;have av:=aB l 8;have az:=aB l 9
 have ab:=aB l 10;have af:=aB l 11;have ag:=aB l 12;have ah:=aB l 13;obtain⟨aA,aC,aJ,aK,aL,aM,aO,aP,aR,aS,aD,aE,aF,aG⟩:=hw bB;simp only[cP,cU,cO] at T V ak al am ao ap ar av az ab af ag ah;have a8:=hh.below bz;have N:=er a8 a9;have P:=er a8 bf;have b4:=h0 _ a9;have b5:=h0 _ bf;have br:=fun W:ac=>gV x W;have bs:=fun W:ac=>gV y W;have bo:=fun W:ac=>gz x W;have bq:=fun W:ac=>gz y W;have bK:=fun(a b c:Int) (W:ac)=>kV a b c W;obtain⟨bE,a7⟩:=ai (dw h x y);rw[<-a7];unfold dw at a7;obtain⟨bD,bh,bJ,bm,ce,cf⟩:=ft a7 bz h0 a8 a9 bf;obtain⟨L,bt⟩:=ai (be h (x.ay:Int))
 obtain⟨aU,bv⟩:=ai (be h (y.ay:Int));rw[<-bt] at N b4;rw[<-bv] at P b5;obtain⟨bG,bI⟩:=aY bt bv;have cq:(0:Int)<=(x.ay:Int):=by omega
 have ct:(0:Int)<=(y.ay:Int):=by omega
 have cr:(x.ay:Int) < (n:Int):=by omega
 have cu:(y.ay:Int) < (n:Int):=by omega
 have cg:¬L < 0:=by omega
 have ci:¬aU < 0:=by omega
 clear bR l bB bz a8 hh h0 a7 a9 bf bt bv;have ck:x.an≥0:=bP;have bN:((x.an.toNat:Nat):Int)=x.an:=jp bP;have I:=er bm.out (show x.an.toNat < n by omega);have bL:=bJ.out x.an.toNat (by omega);rw[bN] at I bL;obtain⟨M,bu⟩:=ai (be h x.an);rw[<-bu] at I bL;have bH:=R bu;have ch:¬M < 0:=by omega
 clear bu bN;have cn:y.an≥0:=bQ;have bO:((y.an.toNat:Nat):Int)=y.an:=jp bQ;have J:=er bm.out (show y.an.toNat < n by omega);have bM:=bJ.out y.an.toNat (by omega);rw[bO] at J bM;obtain⟨a1,bw⟩:=ai (be h y.an);rw[<-bw] at J bM;have bY:=R bw;have cj:¬a1 < 0:=by omega
 clear bw bO;simp only[bj] at br;simp only[bi] at bo;simp only[bk] at bs;simp only[bA] at bq;go_in
 go_wp2_with fail
 generalize (w.alloc (Y #[B o x.e.1, B o x.e.2.1, B o x.e.2.2.1, B o x.e.2.2.2, B o (x.ay:Int), B o x.pl.1, B o x.pl.2.1, B o x.pl.2.2, B o x.an, B o x.aH.1, B o x.aH.2.1, B o x.aH.2.2, B o x.kind, aa x.over] 89)).alloc (Y #[B o y.e.1, B o y.e.2.1, B o y.e.2.2.1, B o y.e.2.2.2, B o (y.ay:Int), B o y.pl.1, B o y.pl.2.1, B o y.pl.2.2, B o y.an, B o y.aH.1, B o y.aH.2.1, B o y.aH.2.2, B o y.kind, aa y.over] 89)=w1 at T V ak al am ao ap ar av az ab af ag ah aA aC aJ aK aL aM aO aP aR aS aD aE aF aG N P I J bh bm |-;obtain⟨bW,bX,bC,bT,bS⟩:=dY br bs bo bq bK;clear br bs bo bq bK;refine dR (fin:= ?z1) [cC x, aa Q, aa Q,U,U, aa Q, aa Q,U,U,U,U,U,U,U,U,U,U,U, aa Q, aa Q,U,U,U,U,U,U,U,U,U,U,U, aa Q] (fun g=>ed w1 w.heap.size x y x.an y.an s z x.an.toNat y.an.toNat L aU M a1 g) ?hf bp (by kernel_rfl) rfl ⟨⟨T,V,ak,al,am,ao,ap,ar,av,az,ab,af,ag,ah⟩,⟨aA,aC,aJ,aK,aL,aM,aO,aP,aR,aS,aD,aE,aF,aG⟩,N,P,I,J,aX.drew⟩ fun g hst=> ?_
 case hf=>simp only[aT,a6,bd,ba,bc];exact rfl
 have aZ:=R hst;obtain⟨⟨T,V,ak,al,am,ao,ap,ar,av,az,ab,af,ag,ah⟩,⟨aA,aC,aJ,aK,aL,aM,aO,aP,aR,aS,aD,aE,aF,aG⟩,N,P,I,J,E⟩:=hst;constructor
 ·iterate 32 refine⟨?_,fun K k=> ?_⟩
  ·trivial
  all_goals try (go_simp;exact k _ aZ.out;done)
  go_simp;exact aw (bW.out g) fun wc A=>k _ (aZ.out.below A)
 have bg:=R E;clear E
 go_wp2_with fail
 obtain⟨cw,rfl⟩:=ai g;obtain⟨z1,bx⟩:=ai (jB aU L M);have bn:=bS.out aU L M;rw[<-bx] at bn;obtain⟨bV,bl⟩:=aY bn bx;clear bn bx;refine dR (fin:= ?z2) [cC x, aa S, aa S,cC y, aa S, aa S, aa S, O (D ⟨s,z,F⟩) n a2, ad (D ⟨w.heap.size+1,4,F⟩), B o (y.ay:Int), ad (D ⟨s,z+y.ay,F⟩), B o aU, O (D ⟨s,z,F⟩) n a2, ad (D ⟨w.heap.size,4,F⟩), B o (x.ay:Int), ad (D ⟨s,z+x.ay,F⟩), B o L, O (D ⟨s,z,F⟩) n a2, ad (D ⟨w.heap.size,8,F⟩), B o x.an, ad (D ⟨s,z+x.an.toNat,F⟩), B o M, aa z1, aa z1] (fun g=>ed w1 w.heap.size x y x.an y.an s z x.an.toNat y.an.toNat L aU M a1 g) ?hf bp (by kernel_rfl) rfl ⟨⟨T,V,ak,al,am,ao,ap,ar,av,az,ab,af,ag,ah⟩,⟨aA,aC,aJ,aK,aL,aM,aO,aP,aR,aS,aD,aE,aF,aG⟩,N,P,I,J,bg.out.drew⟩ fun g hst=> ?_
 case hf=>simp only[aT,a6,bd,ba,bc];exact rfl
 have aZ:=R hst;obtain⟨⟨T,V,ak,al,am,ao,ap,ar,av,az,ab,af,ag,ah⟩,⟨aA,aC,aJ,aK,aL,aM,aO,aP,aR,aS,aD,aE,aF,aG⟩,N,P,I,J,E⟩:=hst;constructor
 ·iterate 24 refine⟨?_,fun K k=> ?_⟩
  ·trivial
  all_goals try (go_simp;exact k _ aZ.out;done)
  ·go_simp
   exact aw (bV.out g) fun wc A=>k _ (aZ.out.below A)
  ·go_simp
   exact aw (bX.out g) fun wc A=>k _ (aZ.out.below A)
  go_simp;exact aw (bC.out g) fun wc A=>k _ (aZ.out.below A)
 cases b9:z1
 ·rw[b9] at bl
  have bg:=R E;clear E
  go_wp2_with fail
  obtain⟨cx,rfl⟩:=ai g;refine dR (fin:= ?z3) [cC x, aa S, aa S,cC y, aa Q, aa Q, aa Q,U,U,U,U,U, aa Q, aa Q,U,U,U,U,U,U,U,U,U,U,U,U,U,U,U,U,U,U,U,U,U,U,U,U,U,U,U,U,U,U,U,U,U, aa Q] (fun g=>ed w1 w.heap.size x y x.an y.an s z x.an.toNat y.an.toNat L aU M a1 g) ?hf bp (by kernel_rfl) rfl ⟨⟨T,V,ak,al,am,ao,ap,ar,av,az,ab,af,ag,ah⟩,⟨aA,aC,aJ,aK,aL,aM,aO,aP,aR,aS,aD,aE,aF,aG⟩,N,P,I,J,bg.out.drew⟩ fun g hst=> ?_;case hf=>simp only[aT,a6,bd,ba,bc];exact rfl
  have G:=R hst;obtain⟨⟨T,V,ak,al,am,ao,ap,ar,av,az,ab,af,ag,ah⟩,⟨aA,aC,aJ,aK,aL,aM,aO,aP,aR,aS,aD,aE,aF,aG⟩,N,P,I,J,E⟩:=hst;constructor
  ·iterate 48 refine⟨?_,fun K k=> ?_⟩
   ·trivial
   all_goals try (go_simp;exact k _ G.out;done)
   ·go_simp
    exact aw (bT.out g) fun wc A=>k _ (G.out.below A)
   go_simp;exact aw (bC.out g) fun wc A=>k _ (G.out.below A)
  have a4:=R (ax bh.out E);have a0:bE=0:=by
   rw[bD.out];rw[<-bG.out,<-bI.out,<-bH.out,<-bl.out,bj,bk,bi,bA];rfl
  have a5:=R a0;clear a0 E;go_wp2;go_ret;exact⟨ez a5.out.symm,a4.out⟩
 rw[b9] at bl;have a4:=R (ax bh.out E);have a0:bE=2:=by
  rw[bD.out];rw[<-bG.out,<-bI.out,<-bH.out,<-bl.out,bj,bk,bi];rfl
 have a5:=R a0;clear a0 E;go_wp2;go_ret;exact⟨ez a5.out.symm,a4.out⟩
theorem xo(x y:bU)(h:List Int)(s z n a2:Nat)(w:ac)(hh:Rd w 1 (D ⟨s,z,F⟩) n (bF h))(h0:∀i:Nat,i < n->0<=be h i)(a9:x.ay < n)(bf:y.ay < n)(bP:(0:Int)<=x.an)(cl:x.an < (n:Int))(bj:x.goes=Q)(bi:x.fold=S)(bQ:(0:Int)<=y.an)(co:y.an < (n:Int))(bk:y.goes=Q)(bA:y.fold=S)(hn:n<=140737488351232):
  Calls aj 36 #[cC x,cC y, O (D ⟨s,z,F⟩) n a2] w fun r Z=>r= .returned (B o (dw h x y))/\Below w.heap.size w Z:=by
 have bR:=aQ w (Y #[B o x.e.1, B o x.e.2.1, B o x.e.2.2.1, B o x.e.2.2.2, B o (x.ay:Int), B o x.pl.1, B o x.pl.2.1, B o x.pl.2.2, B o x.an, B o x.aH.1, B o x.aH.2.1, B o x.aH.2.2, B o x.kind, aa x.over] 89);have l:=aW bR (Y #[B o y.e.1, B o y.e.2.1, B o y.e.2.2.1, B o y.e.2.2.2, B o (y.ay:Int), B o y.pl.1, B o y.pl.2.1, B o y.pl.2.2, B o y.an, B o y.aH.1, B o y.aH.2.1, B o y.aH.2.2, B o y.kind, aa y.over] 89);have bB:=aQ (w.alloc (Y #[B o x.e.1, B o x.e.2.1, B o x.e.2.2.1, B o x.e.2.2.2, B o (x.ay:Int), B o x.pl.1, B o x.pl.2.1, B o x.pl.2.2, B o x.an, B o x.aH.1, B o x.aH.2.1, B o x.aH.2.2, B o x.kind, aa x.over] 89)) (Y #[B o y.e.1, B o y.e.2.1, B o y.e.2.2.1, B o y.e.2.2.2, B o (y.ay:Int), B o y.pl.1, B o y.pl.2.1, B o y.pl.2.2, B o y.an, B o y.aH.1, B o y.aH.2.1, B o y.aH.2.2, B o y.kind, aa y.over] 89)
 rw[World.size_alloc] at bB;have bz:=aN (aV w (Y #[B o x.e.1, B o x.e.2.1, B o x.e.2.2.1, B o x.e.2.2.2, B o (x.ay:Int), B o x.pl.1, B o x.pl.2.1, B o x.pl.2.2, B o x.an, B o x.aH.1, B o x.aH.2.1, B o x.aH.2.2, B o x.kind, aa x.over] 89)) (Y #[B o y.e.1, B o y.e.2.1, B o y.e.2.2.1, B o y.e.2.2.2, B o (y.ay:Int), B o y.pl.1, B o y.pl.2.1, B o y.pl.2.2, B o y.an, B o y.aH.1, B o y.aH.2.1, B o y.aH.2.2, B o y.kind, aa y.over] 89);have T:=aB l 0;have V:=aB l 1;have ak:=aB l 2;have al:=aB l 3;have am:=aB l 4;have ao:=aB l 5;have ap:=aB l 6;have ar:=aB l 7;have av:=aB l 8;have az:=aB l 9
 have ab:=aB l 10;have af:=aB l 11;have ag:=aB l 12;have ah:=aB l 13;obtain⟨aA,aC,aJ,aK,aL,aM,aO,aP,aR,aS,aD,aE,aF,aG⟩:=hw bB;simp only[cP,cU,cO] at T V ak al am ao ap ar av az ab af ag ah;have a8:=hh.below bz;have N:=er a8 a9;have P:=er a8 bf;have b4:=h0 _ a9;have b5:=h0 _ bf;have br:=fun W:ac=>gV x W;have bs:=fun W:ac=>gV y W;have bo:=fun W:ac=>gz x W;have bq:=fun W:ac=>gz y W;have bK:=fun(a b c:Int) (W:ac)=>kV a b c W;obtain⟨bE,a7⟩:=ai (dw h x y);rw[<-a7];unfold dw at a7;obtain⟨bD,bh,bJ,bm,ce,cf⟩:=ft a7 bz h0 a8 a9 bf;obtain⟨L,bt⟩:=ai (be h (x.ay:Int))
 obtain⟨aU,bv⟩:=ai (be h (y.ay:Int));rw[<-bt] at N b4;rw[<-bv] at P b5;obtain⟨bG,bI⟩:=aY bt bv;have cq:(0:Int)<=(x.ay:Int):=by omega
 have ct:(0:Int)<=(y.ay:Int):=by omega
 have cr:(x.ay:Int) < (n:Int):=by omega
 have cu:(y.ay:Int) < (n:Int):=by omega
 have cg:¬L < 0:=by omega
 have ci:¬aU < 0:=by omega
 clear bR l bB bz a8 hh h0 a7 a9 bf bt bv;have ck:x.an≥0:=bP;have bN:((x.an.toNat:Nat):Int)=x.an:=jp bP;have I:=er bm.out (show x.an.toNat < n by omega);have bL:=bJ.out x.an.toNat (by omega);rw[bN] at I bL;obtain⟨M,bu⟩:=ai (be h x.an);rw[<-bu] at I bL;have bH:=R bu;have ch:¬M < 0:=by omega
 clear bu bN;have cn:y.an≥0:=bQ;have bO:((y.an.toNat:Nat):Int)=y.an:=jp bQ;have J:=er bm.out (show y.an.toNat < n by omega);have bM:=bJ.out y.an.toNat (by omega);rw[bO] at J bM;obtain⟨a1,bw⟩:=ai (be h y.an);rw[<-bw] at J bM;have bY:=R bw;have cj:¬a1 < 0:=by omega
 clear bw bO;simp only[bj] at br;simp only[bi] at bo;simp only[bk] at bs;simp only[bA] at bq;go_in
 go_wp2_with fail
 generalize (w.alloc (Y #[B o x.e.1, B o x.e.2.1, B o x.e.2.2.1, B o x.e.2.2.2, B o (x.ay:Int), B o x.pl.1, B o x.pl.2.1, B o x.pl.2.2, B o x.an, B o x.aH.1, B o x.aH.2.1, B o x.aH.2.2, B o x.kind, aa x.over] 89)).alloc (Y #[B o y.e.1, B o y.e.2.1, B o y.e.2.2.1, B o y.e.2.2.2, B o (y.ay:Int), B o y.pl.1, B o y.pl.2.1, B o y.pl.2.2, B o y.an, B o y.aH.1, B o y.aH.2.1, B o y.aH.2.2, B o y.kind, aa y.over] 89)=w1 at T V ak al am ao ap ar av az ab af ag ah aA aC aJ aK aL aM aO aP aR aS aD aE aF aG N P I J bh bm |-;obtain⟨bW,bX,bC,bT,bS⟩:=dY br bs bo bq bK;clear br bs bo bq bK;refine dR (fin:= ?z4) [cC x, aa Q, aa Q,U,U, aa Q, aa Q,U,U,U,U,U,U,U,U,U,U,U, aa Q, aa Q,U,U,U,U,U,U,U,U,U,U,U, aa Q] (fun g=>ed w1 w.heap.size x y x.an y.an s z x.an.toNat y.an.toNat L aU M a1 g) ?hf bp (by kernel_rfl) rfl ⟨⟨T,V,ak,al,am,ao,ap,ar,av,az,ab,af,ag,ah⟩,⟨aA,aC,aJ,aK,aL,aM,aO,aP,aR,aS,aD,aE,aF,aG⟩,N,P,I,J,aX.drew⟩ fun g hst=> ?_
 case hf=>simp only[aT,a6,bd,ba,bc];exact rfl
 have aZ:=R hst;obtain⟨⟨T,V,ak,al,am,ao,ap,ar,av,az,ab,af,ag,ah⟩,⟨aA,aC,aJ,aK,aL,aM,aO,aP,aR,aS,aD,aE,aF,aG⟩,N,P,I,J,E⟩:=hst;constructor
 ·iterate 32 refine⟨?_,fun K k=> ?_⟩
  ·trivial
  all_goals try (go_simp;exact k _ aZ.out;done)
  go_simp;exact aw (bW.out g) fun wc A=>k _ (aZ.out.below A)
 have bg:=R E;clear E
 go_wp2_with fail
 obtain⟨cy,rfl⟩:=ai g;refine dR (fin:= ?z5) [cC x, aa S, aa S,cC y, aa Q, aa Q, aa Q,U,U,U,U,U,U,U,U,U,U,U,U,U,U,U,U, aa Q] (fun g=>ed w1 w.heap.size x y x.an y.an s z x.an.toNat y.an.toNat L aU M a1 g) ?hf bp (by kernel_rfl) rfl ⟨⟨T,V,ak,al,am,ao,ap,ar,av,az,ab,af,ag,ah⟩,⟨aA,aC,aJ,aK,aL,aM,aO,aP,aR,aS,aD,aE,aF,aG⟩,N,P,I,J,bg.out.drew⟩ fun g hst=> ?_;case hf=>simp only[aT,a6,bd,ba,bc];exact rfl
 have aZ:=R hst;obtain⟨⟨T,V,ak,al,am,ao,ap,ar,av,az,ab,af,ag,ah⟩,⟨aA,aC,aJ,aK,aL,aM,aO,aP,aR,aS,aD,aE,aF,aG⟩,N,P,I,J,E⟩:=hst;constructor
 ·iterate 24 refine⟨?_,fun K k=> ?_⟩
  ·trivial
  all_goals try (go_simp;exact k _ aZ.out;done)
  ·go_simp
   exact aw (bX.out g) fun wc A=>k _ (aZ.out.below A)
  go_simp;exact aw (bC.out g) fun wc A=>k _ (aZ.out.below A)
 have bg:=R E;clear E
 go_wp2_with fail
 obtain⟨cz,rfl⟩:=ai g;obtain⟨nq,b2⟩:=ai (((x.ay:Int) !=y.an));have cb:∀Z:ac,(binOp .neq 3 (B o (x.ay:Int)) (B o y.an)).run aj Z= .ok (aa nq) Z:=fun Z=>by rw[b2];rfl
 have b8:au ((x.ay:Int)=y.an)= !nq:=by rw[b2,Bool.eq_iff_iff];simp
 obtain⟨cv,a3⟩:=aY cb b8;clear b2 cb b8;cases nq
 ·skip
  refine dR (fin:= ?z6) [cC x, aa S, aa S,cC y, aa S, aa S, aa S, ad (D ⟨w.heap.size,4,F⟩), B o (x.ay:Int), ad (D ⟨w.heap.size+1,8,F⟩), B o y.an, aa Q, aa Q, aa Q,U,U,U,U,U,U,U,U,U,U,U,U,U,U,U,U,U,U,U,U,U,U,U,U,U,U,U,U,U,U,U,U,U, aa Q] (fun g=>ed w1 w.heap.size x y x.an y.an s z x.an.toNat y.an.toNat L aU M a1 g) ?hf bp (by kernel_rfl) rfl ⟨⟨T,V,ak,al,am,ao,ap,ar,av,az,ab,af,ag,ah⟩,⟨aA,aC,aJ,aK,aL,aM,aO,aP,aR,aS,aD,aE,aF,aG⟩,N,P,I,J,bg.out.drew⟩ fun g hst=> ?_;case hf=>simp only[aT,a6,bd,ba,bc];exact rfl
  have G:=R hst;obtain⟨⟨T,V,ak,al,am,ao,ap,ar,av,az,ab,af,ag,ah⟩,⟨aA,aC,aJ,aK,aL,aM,aO,aP,aR,aS,aD,aE,aF,aG⟩,N,P,I,J,E⟩:=hst;constructor
  ·iterate 48 refine⟨?_,fun K k=> ?_⟩
   ·trivial
   all_goals try (go_simp;exact k _ G.out;done)
   ·go_simp
    first | (rw[show((x.ay:Int) !=y.an)=Q from by have h:=a3.out;revert h;simp];exact k _ G.out) | (rw[show((x.ay:Int)==y.an)=S from by have h:=a3.out;revert h;simp];exact k _ G.out) | (rw[show au ((x.ay:Int)=y.an)=S from by have h:=a3.out;revert h;simp];exact k _ G.out) | (have hn:((x.ay:Int) !=y.an)=Q:=by have h:=a3.out;revert h;simp;go_simp;exact k _ G.out)
   ·go_simp
    exact aw (bT.out g) fun wc A=>k _ (G.out.below A)
   go_simp;exact aw (bC.out g) fun wc A=>k _ (G.out.below A)
  have a4:=R (ax bh.out E);have a0:bE=0:=by
   rw[bD.out];rw[bj,bk,bi,bA,show au ((x.ay:Int)=y.an)=S from by have h:=a3.out;revert h;simp];rfl
  have a5:=R a0;clear a0 E;go_wp2;go_ret;exact⟨ez a5.out.symm,a4.out⟩
 skip
 obtain⟨z1,bx⟩:=ai (jB aU L M);have bn:=bS.out aU L M;rw[<-bx] at bn;obtain⟨bV,bl⟩:=aY bn bx;clear bn bx;obtain⟨z2,b3⟩:=ai (jB a1 L M);have bZ:=bS.out a1 L M;rw[<-b3] at bZ;obtain⟨cd,b6⟩:=aY bZ b3;clear bZ b3;refine dR (fin:= ?z7) [cC x, aa S, aa S,cC y, aa S, aa S, aa S, ad (D ⟨w.heap.size,4,F⟩), B o (x.ay:Int), ad (D ⟨w.heap.size+1,8,F⟩), B o y.an, aa S, aa S, aa S, O (D ⟨s,z,F⟩) n a2, ad (D ⟨w.heap.size+1,4,F⟩), B o (y.ay:Int), ad (D ⟨s,z+y.ay,F⟩), B o aU, O (D ⟨s,z,F⟩) n a2, ad (D ⟨w.heap.size,4,F⟩), B o (x.ay:Int), ad (D ⟨s,z+x.ay,F⟩), B o L, O (D ⟨s,z,F⟩) n a2, ad (D ⟨w.heap.size,8,F⟩), B o x.an, ad (D ⟨s,z+x.an.toNat,F⟩), B o M, aa z1, O (D ⟨s,z,F⟩) n a2, ad (D ⟨w.heap.size+1,8,F⟩), B o y.an, ad (D ⟨s,z+y.an.toNat,F⟩), B o a1, O (D ⟨s,z,F⟩) n a2, ad (D ⟨w.heap.size,4,F⟩), B o (x.ay:Int), ad (D ⟨s,z+x.ay,F⟩), B o L, O (D ⟨s,z,F⟩) n a2, ad (D ⟨w.heap.size,8,F⟩), B o x.an, ad (D ⟨s,z+x.an.toNat,F⟩), B o M, aa z2, aa (z1 !=z2), aa (z1 !=z2)] (fun g=>ed w1 w.heap.size x y x.an y.an s z x.an.toNat y.an.toNat L aU M a1 g) ?hf bp (by kernel_rfl) rfl ⟨⟨T,V,ak,al,am,ao,ap,ar,av,az,ab,af,ag,ah⟩,⟨aA,aC,aJ,aK,aL,aM,aO,aP,aR,aS,aD,aE,aF,aG⟩,N,P,I,J,bg.out.drew⟩ fun g hst=> ?_
 case hf=>simp only[aT,a6,bd,ba,bc];exact rfl
 have G:=R hst;obtain⟨⟨T,V,ak,al,am,ao,ap,ar,av,az,ab,af,ag,ah⟩,⟨aA,aC,aJ,aK,aL,aM,aO,aP,aR,aS,aD,aE,aF,aG⟩,N,P,I,J,E⟩:=hst;constructor
 ·iterate 48 refine⟨?_,fun K k=> ?_⟩
  ·trivial
  all_goals try (go_simp;exact k _ G.out;done)
  ·go_simp
   exact aw (cd.out g) fun wc A=>k _ (G.out.below A)
  ·go_simp
   exact aw (bV.out g) fun wc A=>k _ (G.out.below A)
  ·go_simp
   first | (rw[show((x.ay:Int) !=y.an)=S from by have h:=a3.out;revert h;simp];exact k _ G.out) | (rw[show((x.ay:Int)==y.an)=Q from by have h:=a3.out;revert h;simp];exact k _ G.out) | (rw[show au ((x.ay:Int)=y.an)=Q from by have h:=a3.out;revert h;simp];exact k _ G.out) | (have hn:((x.ay:Int) !=y.an)=S:=by have h:=a3.out;revert h;simp;go_simp;exact k _ G.out)
  ·go_simp
   exact aw (bT.out g) fun wc A=>k _ (G.out.below A)
  go_simp;exact aw (bC.out g) fun wc A=>k _ (G.out.below A)
 cases aI:(z1 !=z2)
 ·skip
  have a4:=R (ax bh.out E);have a0:bE=0:=by
   rw[bD.out];rw[<-bG.out,<-bI.out,<-bH.out,<-bY.out,<-bl.out,<-b6.out,aI,bj,bk,bi,bA,show au ((x.ay:Int)=y.an)=Q from by have h:=a3.out;revert h;simp];rfl
  have a5:=R a0;clear a0 E;go_wp2;go_ret;exact⟨ez a5.out.symm,a4.out⟩
 skip
 have a4:=R (ax bh.out E);have a0:bE=3:=by
  rw[bD.out];rw[<-bG.out,<-bI.out,<-bH.out,<-bY.out,<-bl.out,<-b6.out,aI,bj,bk,bi,bA,show au ((x.ay:Int)=y.an)=Q from by have h:=a3.out;revert h;simp];rfl
 have a5:=R a0;clear a0 E;go_wp2;go_ret;exact⟨ez a5.out.symm,a4.out⟩
end
section
open Go.RowKit Go.Maps
theorem xm(x y:bU)(h:List Int)(b g n k:Nat)(w:ac)(hh:Rd w 1 (D ⟨b,g,F⟩) n (bF h))(h0:∀i:Nat,i < n->0<=be h i)(l:x.ay < n)(s:y.ay < n)(G:x.an= -1∨∃j:Nat,j < n/\x.an=(j:Int))(I:y.an= -1∨∃j:Nat,j < n/\y.an=(j:Int))(hn:n<=140737488351232):
  Calls aj 36 #[cC x,cC y, O (D ⟨b,g,F⟩) n k] w fun r Z=>r= .returned (B o (dw h x y))/\Below w.heap.size w Z:=by
 have E:∀c:bU,(c.an= -1∨∃j:Nat,j < n/\c.an=(j:Int))->(¬(0:Int)<=c.an/\c.goes=Q/\c.fold=Q)∨((0:Int)<=c.an/\c.an < (n:Int)/\((c.goes=S/\c.fold=Q)∨(c.goes=Q/\c.fold=S))):=fun c hc=>by
  unfold bU.goes bU.fold;by_cases h1:(0:Int)<=c.an
  ·refine .inr ⟨h1,by omega, ?_⟩
   rw[decide_eq_true h1];by_cases ab:c.aH=c.pl
   ·rw[decide_eq_true ab];exact .inr ⟨rfl,rfl⟩
   ·rw[decide_eq_false ab];exact .inl ⟨rfl,rfl⟩
  ·rw[decide_eq_false h1];exact .inl ⟨h1,rfl,rfl⟩
 rcases E x G with ⟨ao,a2,a⟩ | ⟨ao,a2,⟨a,z⟩ | ⟨a,z⟩⟩ <;> rcases E y I with ⟨b1,aC,aM⟩ | ⟨b1,aC,⟨aM,A⟩ | ⟨aM,A⟩⟩
 ·exact xv x y h b g n k w hh h0 l s ao a2 a b1 aC aM hn
 iterate 2 (exact xu x y h b g n k w hh h0 l s ao a2 a b1 aC hn)
 ·exact xt x y h b g n k w hh h0 l s ao a2 a z b1 aC aM hn
 ·exact xs x y h b g n k w hh h0 l s ao a2 a z b1 aC aM A hn
 ·exact xr x y h b g n k w hh h0 l s ao a2 a z b1 aC aM A hn
 ·exact xq x y h b g n k w hh h0 l s ao a2 a z b1 aC aM hn
 ·exact xp x y h b g n k w hh h0 l s ao a2 a z b1 aC aM A hn
 ·exact xo x y h b g n k w hh h0 l s ao a2 a z b1 aC aM A hn
end
section
set_option maxRecDepth 100000
open Go.RowKit Go.Maps
theorem xw(W H:Nat)(Am Ac Ap As:Option Addr)(nm cm nc cc np cp ns cS:Nat)(mask:List Int)(cs:List bw)(L:List ah)(ms:List aR)(sts:List aP)(w:ac)(cr:eF w W H Am nm mask Ac nc cs)(hL:bG W mask=L)(eg:L.length<=300)(c7:Rd w 6 Ap np (b5 ms))(hst:en w As ns sts)(c0:fp L (fr Q cs) ms)(h0:∀i:Nat,i < L.length->0<=be (L.map (cy sts)) i)(ep:0 < L.length):
  Calls aj 10 #[aq #[B o W, B o H, O Am nm cm, O Ac nc cc, O Ap np cp, O As ns cS]] w fun e Z=>∃v,e= .returned v/\Z.ownsRow w.heap.size 44 5 v (iC (d4 L ms cs (L.length*3)) (L.map (cy sts))).length (cV (iC (d4 L ms cs (L.length*3)) (L.map (cy sts))))/\Below w.heap.size w Z:=by
 have dh:=aQ w (Y #[B o W, B o H, O Am nm cm, O Ac nc cc, O Ap np cp, O As ns cS] 29);have aL:=aV w (Y #[B o W, B o H, O Am nm cm, O Ac nc cc, O Ap np cp, O As ns cS] 29);obtain⟨a0,ao,a2,bn,bq,br⟩:=cx dh;have dd:w.heap.size<=(w.alloc (Y #[B o W, B o H, O Am nm cm, O Ac nc cc, O Ap np cp, O As ns cS] 29)).heap.size:=aL.size;have a9:=xM W H Am Ac Ap nm cm nc cc np cp mask cs L ms (w.alloc (Y #[B o W, B o H, O Am nm cm, O Ac nc cc, O Ap np cp, O As ns cS] 29)) (cr.below aL) hL (c7.below aL) c0;unfold g5 at a9;have aW:=fun(W':ac) (N:Below (w.alloc (Y #[B o W, B o H, O Am nm cm, O Ac nc cc, O Ap np cp, O As ns cS] 29)).heap.size (w.alloc (Y #[B o W, B o H, O Am nm cm, O Ac nc cc, O Ap np cp, O As ns cS] 29)) W')=>t7 W H Am Ac Ap As nm cm nc cc np cp ns cS mask cs L sts W' ((cr.below aL).below N) hL (by omega) ((hst.below aL).below N)
 obtain⟨cl,bt⟩:=ai (d4 L ms cs (L.length*3));obtain⟨h,hh⟩:=ai (L.map (cy sts));have cv:cl.length=L.length*3:=by rw[bt,oZ]
 have d5:h.length=L.length:=by rw[hh,List.length_map]
 have c1:∀(q:Nat) (x:bU),cl[q]? =D x->x.ay < L.length/\(x.an= -1∨∃j:Nat,j < L.length/\x.an=(j:Int)):=fun q x c8=>by
  rw[bt] at c8;obtain⟨h1,rfl⟩:=oY c8;exact⟨show q / 3 < L.length by omega,sZ _ _ _ _ _⟩
 rw[<-bt] at a9 |-;rw[<-hh] at h0 aW |-;rw[<-cv] at a9;obtain⟨bM,bO,cJ,cI,cK⟩:=dY a9 aW c1 h0 aL;have eh:cl.length<=900:=by omega
 have d3:0 < cl.length:=by omega
 have ee:=R cv;have cZ:L.length<=h.length:=by omega
 have ef:=R cZ;obtain⟨dE,bs⟩:=ai (iC cl h);rw[<-bs];unfold iC at bs;have dx:=R bs;clear cr hL c7 hst c0 h0 aL dh a9 aW bt hh c1 bs cv d5 cZ;go_in
 go_wp2_with fail
 generalize w.alloc (Y #[B o W, B o H, O Am nm cm, O Ac nc cc, O Ap np cp, O As ns cS] 29)=w0 at a0 ao a2 bn bq br bM bO cK dd |-;refine bM.out.mono ?_;rintro e eb ⟨v,rfl,cz,ag⟩;obtain⟨I,a1,_,cE,_,_,_,_⟩:=dF cz (show 0 < cl.length from d3);subst cE;obtain⟨cM,cf⟩:=aY cz ag;replace a0:=V a0 ag;replace ao:=V ao ag;replace a2:=V a2 ag;replace bn:=V bn ag;replace bq:=V bq ag;replace br:=V br ag;have aW:=bO.out eb ag;have cH:=R aW;clear cz ag bM bO aW
 go_wp2_with fail
 refine cH.out.mono ?_;rintro e s ⟨v,rfl,aM,cu⟩;obtain⟨co,cn,_,cE,_,_,_,_⟩:=dF aM (show 0 < L.length by omega);subst cE;obtain⟨cR,cQ,cL⟩:=cq (Rd.dB aM) (bo cM.out cu) (cK.out.trans ((cf.out.trans (cu.mono cf.out.size)).mono dd));have hsz2:=cL.out.size;have c9:Hid (s.ownsRow s.heap.size 44 5 (O F 0 0) 0 (cV [])):=R (World.ownsRow_nil _ _ _ _);clear aM cu cH a0 ao a2 bn bq br cM cf
 go_wp2_with fail
 go_loopw [5,6] (fun T v wr=>∃(i:Nat) (af:List bP),i<=cl.length/\v= B o i/\Hid (af=(c4 i).foldl (gG cl h) [])/\Hid (wr.ownsRow s.heap.size 44 5 T af.length (cV af))/\Hid (Below s.heap.size s wr)) (fun _ v _=>cl.length-(intOf v).toNat)
 case atStart=>exact⟨0, [],by omega,rfl,R rfl,c9,R aX⟩
 clear c9;obtain⟨i,af,al,rfl,cw,aN,P⟩:=hrel;obtain⟨ec,rfl⟩:=ai wr;obtain⟨T,rfl⟩:=ai u5;by_cases d6:i < cl.length
 ·obtain⟨x,bh⟩:∃x,cl[i]? =D x:=⟨_,bb d6⟩
  obtain⟨de,cF⟩:=cJ.out i x bh;have c6:af.length<=i*(1+cl.length):=by rw[cw.out];exact yv cl h i
  have eq:af.length<=900*901:=Nat.le_trans c6 (Nat.mul_le_mul (by omega) (by omega));have a3:=bo cQ.out P.out;obtain⟨ak,am,aA,aB,aC,aD,aE,aF,aG,aH,ap,ar,av,az⟩:=qO a3 bh rfl;have ek:(i:Int) < (cl.length:Int):=by omega
  have ei:(0:Int)<=(i:Int):=by omega
  have cj:=fun(W':ac) (N:Below s.heap.size s W')=>AE x h co 0 L.length cn W' (cR.out.below N) cI.out de cF (by omega);obtain⟨b,N⟩:=ai (ij h x);have dH:gG cl h af i=(c4 cl.length).foldl (fH cl h x i) (bif b then ej af (x.e,4) else af):=by unfold gG;rw[bh,N]
  rw[<-N] at cj;obtain⟨cG,dz,dA,cY⟩:=df (cj ec P.out) bh cF dH;clear bh cF N dH cj c6 a3;go_upto_if 27 with (go_at_call 34;refine aw cG.out fun ev G=> ?_)
  obtain⟨a7,ch⟩:=aY (P.out.trans (G.mono P.out.size)) (bo aN.out G);replace ak:=V ak G;replace am:=V am G;replace aA:=V aA G;replace aB:=V aB G;replace aC:=V aC G;replace aD:=V aD G;replace aE:=V aE G;replace aF:=V aF G;replace aG:=V aG G;replace aH:=V aH G;replace ap:=V ap G;replace ar:=V ar G;replace av:=V av G;replace az:=V az G;clear G aN P cG;go_cut [5] from 16 to 91 (fun v dj=>∃ab:List bP,ab.length<=af.length+1/\Hid (gG cl h af i=(c4 cl.length).foldl (fH cl h x i) ab)/\Hid (dj.ownsRow s.heap.size 44 5 v ab.length (cV ab))/\Hid (Below s.heap.size s dj))
  case first=>
   cases b with
   | true=>
    have dp:=fun(W':ac) (hW:W'.ownsRow s.heap.size 44 5 T af.length (cV af)) (aI:s.heap.size<=W'.heap.size)=>vh s.heap.size T af (x.e,4) W' hW aI (by omega);have bN:=R dp;clear dp
    go_wp2_with (go_at_call 35;refine(bN.out _ ch.out a7.out.size).mono ?_;rintro e di ⟨dG,rfl,bg,bf⟩;have ci:=R bg;have aS:=R (a7.out.trans (bf.mono a7.out.size));clear bg bf)
    go_meet
    case rel=>exact⟨ej af (x.e,4),rL _ _,cY,ci,aS⟩
   | false=>
    go_wp2_with fail
    go_meet
    case rel=>exact⟨af,by omega,cY,ch,a7⟩
  obtain⟨ab,er,dy,cT,aS⟩:=hcut;obtain⟨di,rfl⟩:=ai wc;clear a7 ch ak am aA aB aC aD aE aF aG aH ap ar av az
  go_wp2_with fail
  go_loopw [5,7] (fun T v wr=>∃(k:Nat) (l:List bP),k<=cl.length/\v= B o k/\Hid (l=(c4 k).foldl (fH cl h x i) ab)/\Hid (wr.ownsRow s.heap.size 44 5 T l.length (cV l))/\Hid (Below s.heap.size s wr)) (fun _ v _=>cl.length-(intOf v).toNat)
  case atStart=>exact⟨0,ab,by omega,rfl,R rfl,cT,aS⟩
  clear cT aS;obtain⟨k,l,el,rfl,aM,aN,P⟩:=hrel;obtain⟨T,rfl⟩:=ai u5;obtain⟨ew,rfl⟩:=ai wr;have M:=P;clear P;by_cases d7:k < cl.length
  ·obtain⟨y,bv⟩:∃x,cl[k]? =D x:=⟨_,bb d7⟩
   obtain⟨d9,dg⟩:=cJ.out k y bv;have es:l.length<=ab.length+k:=by rw[aM.out];exact tz cl h x i ab k
   have a3:=bo cQ.out M.out;obtain⟨ak,am,aA,aB,aC,aD,aE,aF,aG,aH,ap,ar,av,az⟩:=qO a3 dz.out rfl;obtain⟨c,aJ,a5,bD,bE,bF,bH,bI,bJ,bL,bz,bA,bB,bC⟩:=qO a3 bv rfl;have eo:(k:Int) < (cl.length:Int):=by omega
   have em:(0:Int)<=(k:Int):=by omega
   have ck:=fun(W':ac) (N:Below s.heap.size s W')=>xm x y h co 0 L.length cn W' (cR.out.below N) cI.out de d9 dA.out dg (by omega);obtain⟨aZ,cA⟩:=ai (au (x.e=y.e));obtain⟨bm,cB⟩:=ai (au (x.pl=y.pl));obtain⟨z,aI⟩:=ai (dw h x y);have hst:fH cl h x i l k=bif (aZ && bm) && !au (i=k) && au (0 < z) then ej l (x.e,z) else l:=by unfold fH io;rw[bv,cA,cB,aI]
   have cN:=fun Z:ac=>AO x.e y.e Z;have ct:=fun Z:ac=>AP x.pl y.pl Z;rw[<-cA] at cN;rw[<-cB] at ct;rw[<-aI] at ck;obtain⟨dl,a8,dC,dD⟩:=df ck hst cN ct;have c5:(c4 (k+1)).foldl (fH cl h x i) ab=fH cl h x i l k:=by rw[ni,aM.out]
   have bj:=R c5;have eu:b7.wrap ((k:Int)+1)=((k+1:Nat):Int):=by rw[ca _ (by omega)];omega
   clear cA cB aI hst cN ct bv dg a3 c5 ck
   go_wp2_with fail
   obtain⟨a4,cD⟩:=ai (au (i=k));have c3:((i:Int)==(k:Int))=a4:=by rw[cD,Bool.eq_iff_iff];simp only[beq_iff_eq,decide_eq_true_eq];omega
   obtain⟨dr,du⟩:=aY c3 cD;clear c3 cD;obtain⟨dI,bQ⟩:∃g:ae,Hid (g=(bif (!(!aZ)) then O (D ⟨I,0,F⟩) cl.length a1 else U)):=⟨_,R rfl⟩;obtain⟨dK,bR⟩:∃g:ae,Hid (g=(bif (!(!aZ)) then B o (i:Int) else U)):=⟨_,R rfl⟩;obtain⟨dL,bT⟩:∃g:ae,Hid (g=(bif (!(!aZ)) then ad (D ⟨I,i*14,F⟩) else U)):=⟨_,R rfl⟩;obtain⟨dM,bV⟩:∃g:ae,Hid (g=(bif (!(!aZ)) then ad (D ⟨I,i*14+5,F⟩) else U)):=⟨_,R rfl⟩;obtain⟨dN,bX⟩:∃g:ae,Hid (g=(bif (!(!aZ)) then bK x.pl else U)):=⟨_,R rfl⟩;obtain⟨dO,bY⟩:∃g:ae,Hid (g=(bif (!(!aZ)) then O (D ⟨I,0,F⟩) cl.length a1 else U)):=⟨_,R rfl⟩;obtain⟨dP,bZ⟩:∃g:ae,Hid (g=(bif (!(!aZ)) then B o (k:Int) else U)):=⟨_,R rfl⟩
   obtain⟨dQ,b2⟩:∃g:ae,Hid (g=(bif (!(!aZ)) then ad (D ⟨I,k*14,F⟩) else U)):=⟨_,R rfl⟩;obtain⟨dR,b3⟩:∃g:ae,Hid (g=(bif (!(!aZ)) then ad (D ⟨I,k*14+5,F⟩) else U)):=⟨_,R rfl⟩;obtain⟨dS,b4⟩:∃g:ae,Hid (g=(bif (!(!aZ)) then bK y.pl else U)):=⟨_,R rfl⟩;obtain⟨dT,b6⟩:∃g:ae,Hid (g=(bif (!(!aZ)) then aa (!bm) else U)):=⟨_,R rfl⟩;obtain⟨dU,b8⟩:∃g:ae,Hid (g= aa ((!aZ) || (!bm))):=⟨_,R rfl⟩;obtain⟨dV,aO⟩:∃g:ae,Hid (g= aa ((!aZ) || (!bm))):=⟨_,R rfl⟩;obtain⟨dW,b9⟩:∃g:ae,Hid (g=(bif (!((!aZ) || (!bm))) then B o (i:Int) else U)):=⟨_,R rfl⟩;obtain⟨dX,cb⟩:∃g:ae,Hid (g=(bif (!((!aZ) || (!bm))) then B o (k:Int) else U)):=⟨_,R rfl⟩
   obtain⟨dZ,cd⟩:∃g:ae,Hid (g=(bif (!((!aZ) || (!bm))) then aa a4 else U)):=⟨_,R rfl⟩;obtain⟨d1,ce⟩:∃g:ae,Hid (g= aa (((!aZ) || (!bm)) || a4)):=⟨_,R rfl⟩;refine bW (fin:= ?z2) [O (D ⟨I,0,F⟩) cl.length a1, B o (i:Int), ad (D ⟨I,i*14,F⟩), ad (D ⟨I,i*14,F⟩),bS x.e, O (D ⟨I,0,F⟩) cl.length a1, B o (k:Int), ad (D ⟨I,k*14,F⟩), ad (D ⟨I,k*14,F⟩),bS y.e, aa (!aZ), aa (!aZ),dI,dK,dL,dM,dN,dO,dP,dQ,dR,dS,dT,dU,dV,dW,dX,dZ,d1] ?hf bp (by kernel_rfl) rfl fun bl hst=> ?_;case hf=>simp only[aT,a6,bd,ba,bc];exact rfl
   have A:=R hst;have J:=hst;obtain⟨ak,am,aA,aB,aC,aD,aE,aF,c,aJ,a5,bD,bE,bF,bH,bI⟩:=vv J ak am aA aB aC aD aE aF c aJ a5 bD bE bF bH bI;constructor
   ·iterate 29 refine⟨?_,fun K a=> ?_⟩
    ·trivial
    ·obtain rfl:=ce.out
     obtain rfl:=aO.out;obtain rfl:=cd.out;generalize (!aZ)=aJ at a |-;generalize (!bm)=a5 at a |-;cases a4 <;> cases aJ <;> cases a5 <;> (go_simp;exact a _ A.out)
    ·have r:=dr.out
     obtain rfl:=cd.out;obtain rfl:=aO.out;obtain rfl:=b9.out;obtain rfl:=cb.out;generalize ((!aZ) || (!bm))=c at a |-;cases c <;> (go_simp;exact a _ A.out)
    ·obtain rfl:=cb.out
     obtain rfl:=aO.out;generalize ((!aZ) || (!bm))=c at a |-;cases c <;> (go_simp;exact a _ A.out)
    ·obtain rfl:=b9.out
     obtain rfl:=aO.out;generalize ((!aZ) || (!bm))=c at a |-;cases c <;> (go_simp;exact a _ A.out)
    ·obtain rfl:=aO.out
     obtain rfl:=b8.out;generalize ((!aZ) || (!bm))=c at a |-;cases c <;> (go_simp;exact a _ A.out)
    ·obtain rfl:=b8.out
     obtain rfl:=b6.out;generalize (!aZ)=c at a |-;generalize (!bm)=aJ at a |-;cases c <;> cases aJ <;> (go_simp;exact a _ A.out)
    ·have r:=dD.out
     obtain rfl:=b6.out;obtain rfl:=bX.out;obtain rfl:=b4.out;generalize (!aZ)=c at a |-;cases c <;> (go_simp;exact a _ A.out)
    ·obtain rfl:=b4.out
     obtain rfl:=b3.out;generalize (!aZ)=c at a |-;cases c <;> (go_simp;exact a _ A.out)
    ·obtain rfl:=b3.out
     obtain rfl:=b2.out;generalize (!aZ)=c at a |-;cases c <;> (go_simp;exact a _ A.out)
    ·obtain rfl:=b2.out
     obtain rfl:=bY.out;obtain rfl:=bZ.out;generalize (!aZ)=c at a |-;cases c <;> (go_simp;exact a _ A.out)
    ·obtain rfl:=bZ.out
     generalize (!aZ)=c at a |-;cases c <;> (go_simp;exact a _ A.out)
    ·obtain rfl:=bY.out
     generalize (!aZ)=c at a |-;cases c <;> (go_simp;exact a _ A.out)
    ·obtain rfl:=bX.out
     obtain rfl:=bV.out;generalize (!aZ)=c at a |-;cases c <;> (go_simp;exact a _ A.out)
    ·obtain rfl:=bV.out
     obtain rfl:=bT.out;generalize (!aZ)=c at a |-;cases c <;> (go_simp;exact a _ A.out)
    ·obtain rfl:=bT.out
     obtain rfl:=bQ.out;obtain rfl:=bR.out;generalize (!aZ)=c at a |-;cases c <;> (go_simp;exact a _ A.out)
    ·obtain rfl:=bR.out
     generalize (!aZ)=c at a |-;cases c <;> (go_simp;exact a _ A.out)
    ·obtain rfl:=bQ.out
     generalize (!aZ)=c at a |-;cases c <;> (go_simp;exact a _ A.out)
    ·generalize (!aZ)=c at a |-
     cases c <;> (go_simp;exact a _ A.out)
    ·have r:=dC.out
     (go_simp;exact a _ A.out)
    iterate 10 (go_simp;exact a _ A.out)
   obtain rfl:=ce.out;clear bQ bR bT bV bX bY bZ b2 b3 b4 b6 b8 aO b9 cb cd ce;obtain⟨E,cW⟩:=aY J (bo aN.out J);clear J;obtain⟨dk,rfl⟩:=ai bl;rw[<-du.out] at a8;generalize c2:(((!aZ) || (!bm)) || a4)=cc;have dc:fH cl h x i l k=bif (!cc) && au (0 < z) then ej l (x.e,z) else l:=by
    rw[a8.out,<-c2];cases aZ <;> cases bm <;> cases a4 <;> rfl
   have bk:=R dc;clear dc a8 c2
   cases cc with
   | true=>
    have da:fH cl h x i l k=l:=by rw[bk.out];rfl
    have aU:=R (bj.out.trans da);clear da bk bj
    go_wp2_with fail
    go_roundw
    case rel=>exact⟨k+1,l,by omega,by first | rfl | go_num,R aU.out.symm,cW,R (M.out.trans (E.out.mono M.out.size))⟩
    case measure=>simp[intOf];omega
   | false=>
    have db:fH cl h x i l k=bif au (0 < z) then ej l (x.e,z) else l:=by rw[bk.out];rfl
    have aU:=R (bj.out.trans db);clear db bk bj
    go_wp2_with fail
    replace aG:=V aG E.out;replace aH:=V aH E.out;replace ap:=V ap E.out;replace ar:=V ar E.out;replace av:=V av E.out;replace az:=V az E.out;replace bJ:=V bJ E.out;replace bL:=V bL E.out;replace bz:=V bz E.out;replace bA:=V bA E.out;replace bB:=V bB E.out;replace bC:=V bC E.out;have dm:=R (fun(W':ac) (N:Below dk.heap.size dk W')=>dl.out W' ((M.out.trans (E.out.mono M.out.size)).trans (N.mono (M.out.trans (E.out.mono M.out.size)).size)));refine bW (fin:= ?z3) [O (D ⟨I,0,F⟩) cl.length a1, B o (i:Int), ad (D ⟨I,i*14,F⟩),cC x, O (D ⟨I,0,F⟩) cl.length a1, B o (k:Int), ad (D ⟨I,k*14,F⟩),cC y, O (D ⟨co,0,F⟩) L.length cn, B o z, B o z] ?hf bp (by kernel_rfl) rfl fun bl J=> ?_
    case hf=>simp only[aT,a6,bd,ba,bc];exact rfl
    have a8:=R J;obtain⟨ak,am,aA,aB,aC,aD,aE,aF,aG,aH,ap,ar,av,az,c,aJ,a5,bD,bE,bF,bH,bI,bJ,bL,bz,bA,bB,bC⟩:=Cb J ak am aA aB aC aD aE aF aG aH ap ar av az c aJ a5 bD bE bF bH bI bJ bL bz bA bB bC;constructor
    ·iterate 11 refine⟨?_,fun K a=> ?_⟩
     ·trivial
     all_goals try (go_simp;exact a _ a8.out;done)
     go_simp;exact aw (dm.out bl J) fun wc d2=>a _ (ax J d2)
    obtain⟨bi,cX,ed⟩:=cq ((M.out.trans (E.out.mono M.out.size)).trans (J.mono (M.out.trans (E.out.mono M.out.size)).size)) (bo cW.out J) J;clear J;obtain⟨ex,rfl⟩:=ai bl;by_cases bx:0 < z
    ·have ea:z > 0:=bx
     have aK:=aU.out;rw[decide_eq_true bx] at aK;have cg:=R aK;have dp:=fun(W':ac) (hW:W'.ownsRow s.heap.size 44 5 T l.length (cV l)) (aI:s.heap.size<=W'.heap.size)=>vh s.heap.size T l (x.e,z) W' hW aI (by omega);have bN:=R dp;clear dp aK aU
     go_wp2_with (go_at_call 35;refine(bN.out _ cX.out bi.out.size).mono ?_;rintro e di ⟨dG,rfl,bg,bf⟩;have ci:=R bg;have aS:=R bf;clear bg bf)
     go_roundw
     case rel=>exact⟨k+1,ej l (x.e,z),by omega,by first | rfl | go_num,R cg.out.symm,ci,R (bi.out.trans (aS.out.mono bi.out.size))⟩
     case measure=>simp[intOf];omega
    have ea:¬z > 0:=bx;have aK:=aU.out;rw[decide_eq_false bx] at aK;have cg:=R aK;clear aK aU;go_wp2;go_roundw
    case rel=>exact⟨k+1,l,by omega,by first | rfl | go_num,R cg.out.symm,cX,bi⟩
    case measure=>simp[intOf];omega
  obtain rfl:k=cl.length:=by omega
  have bu:(c4 (i+1)).foldl (gG cl h) []=l:=by rw[ni,<-cw.out,dy.out,aM.out]
  have dt:=R bu;have d8:¬((cl.length:Int) < (cl.length:Int)):=by omega
  have et:b7.wrap ((i:Int)+1)=((i+1:Nat):Int):=by rw[ca _ (by omega)];omega
  clear bu;go_wp2;go_roundw
  case rel=>exact⟨i+1,l,by omega,by first | rfl | go_num,R dt.out.symm,aN,M⟩
  case measure=>simp[intOf];omega
 obtain rfl:i=cl.length:=by omega
 have bu:dE=af:=by rw[dx.out,cw.out]
 subst bu;have dv:=aN;have dq:=R (cL.out.trans (P.out.mono hsz2));have d8:¬((cl.length:Int) < (cl.length:Int)):=by omega
 clear aN P;go_wp2;exact bodyPost_ret (v:=T) (by simp[results,Tryz.results10,go_sem]) rfl ⟨T,rfl,dn dv.out hsz2,dq.out⟩
end
section
set_option maxRecDepth 100000
open Go.RowKit Go.Maps
theorem Cn(W H:Int)(Am Ac:Option Addr)(nm cm nc cc:Nat)(mask:List Int)(cs:List bw)(w:ac)(bH:Rd w 1 Am nm (bF mask))(hc:Rd w 5 Ac nc (cr cs))(hnm:nm<=140737488351232)(hnc:nc<=140737488351232):
  Calls aj 26 #[aq #[B o W, B o H, O Am nm cm, O Ac nc cc]] w fun e Z=>e= .returned (aa (fu W H mask cs))/\Below w.heap.size w Z:=by
 have b6:=aQ w (Y #[B o W, B o H, O Am nm cm, O Ac nc cc] 25);have G:=aV w (Y #[B o W, B o H, O Am nm cm, O Ac nc cc] 25);obtain⟨bt,ap,ak,bu⟩:=dm b6;have aI:w.heap.size < (w.alloc (Y #[B o W, B o H, O Am nm cm, O Ac nc cc] 25)).heap.size:=by simp
 have bs:=xe W H Am Ac nm cm nc cc mask _ (bH.alloc (Y #[B o W, B o H, O Am nm cm, O Ac nc cc] 25)) hnm;obtain⟨bj,bB⟩:=ai (fu W H mask cs);rw[<-bB];obtain⟨cf,bx⟩:=ai (iB W H mask);rw[<-bx] at bs;obtain⟨bq,bi,aW,bT,bo⟩:=dY bB bx (hc.alloc (Y #[B o W, B o H, O Am nm cm, O Ac nc cc] 25)) (bH.alloc (Y #[B o W, B o H, O Am nm cm, O Ac nc cc] 25)) bs;clear bs bB hc bH bx b6;go_in
 cases cf with
 | false=>
  have b5:bj=Q:=by rw[bq.out];unfold fu;rw[<-bi.out];rfl
  have cj:=R b5;clear b5
  go_wp2_with (go_at_call 67;refine aw bo.out fun aU a2=> ?_;have k:=R (ax G a2))
  go_ret;exact⟨cW cj.out.symm,k.out⟩
 | true=>
  have ct:∃s z:Nat,W=s/\H=z/\(1<=s/\s<=8)/\(1<=z/\z<=8)/\mask.length=s*z:=by
   have h:=bi.out;have h1:1<=W/\W<=8:=by
    apply mr;intro hn;rw[lG (by omega)] at h;cases h
   have ab:1<=H/\H<=8:=by
    apply mr;intro hn;rw[lG (by omega)] at h;cases h
   have ag:(mask.length:Int)=W*H:=by
    apply mr;intro hn;rw[lG (.inr (.inr (.inr (.inr hn))))] at h;cases h
   obtain⟨s,rfl⟩:=lo (show 0<=W by omega);obtain⟨z,rfl⟩:=lo (show 0<=H by omega);refine⟨s,z,rfl,rfl,by omega,by omega, ?_⟩;have:(mask.length:Int)=((s*z:Nat):Int):=by rw[ag];simp
   omega
  obtain⟨s,z,rfl,rfl,hW,cn,cv⟩:=ct;have bC:eF (w.alloc (Y #[B o (s:Int), B o (z:Int), O Am nm cm, O Ac nc cc] 25)) s z Am nm mask Ac nc cs:=⟨hW,cn,cv,bT.out,aW.out,hnc⟩;have cB:=aW.out.mN;have bI:bj=(eQ (bG s mask) F cs && gc (bG s mask)):=by rw[bq.out];unfold fu;rw[<-bi.out];rfl
  have ep:=fun(an:ac) (a1:Below (w.alloc (Y #[B o (s:Int), B o (z:Int), O Am nm cm, O Ac nc cc] 25)).heap.size (w.alloc (Y #[B o (s:Int), B o (z:Int), O Am nm cm, O Ac nc cc] 25)) an) (e:aO)=>ze s z Am Ac nm cm nc cc mask cs e an (bC.below a1);have aJ:=fun(an:ac) (a1:Below (w.alloc (Y #[B o (s:Int), B o (z:Int), O Am nm cm, O Ac nc cc] 25)).heap.size (w.alloc (Y #[B o (s:Int), B o (z:Int), O Am nm cm, O Ac nc cc] 25)) an)=>zo s z Am Ac nm cm nc cc mask cs an (bC.below a1);obtain⟨L,bZ⟩:=ai (bG s mask);rw[<-bZ] at bI ep aJ;obtain⟨bU,bR,bS⟩:=cq bI ep aJ;clear bI ep aJ bC bq bZ bi bT
  go_wp2_with (go_at_call 67;refine aw bo.out fun aU a2=> ?_;have k:=R a2;have cl:=V bu a2;clear a2)
  generalize w.alloc (Y #[B o (s:Int), B o (z:Int), O Am nm cm, O Ac nc cc] 25)=w0 at bt ap ak bu aI G aW bR bS k;obtain⟨bY,f1,f2⟩:=lc k.out bt ap ak;have aG:w.heap.size < aU.heap.size:=Nat.lt_of_lt_of_le aI k.out.size;clear bt ap ak bu bo;go_loopw [3] (fun x wr=>∃i:Nat,i<=nc/\x= B o i/\Hid (eQ L F (cs.take i)=S)/\Below aU.heap.size aU wr) (fun x _=>nc-(intOf x).toNat)
  case atStart=>exact⟨0,by omega,rfl,R rfl,aX⟩
  obtain⟨i,al,rfl,b2,T⟩:=hrel;have aM:=c9 cl T aG;by_cases cE:i < nc
  ·obtain⟨c,a3⟩:∃c,cs[i]? =D c:=⟨_,bb (by omega)⟩
   obtain⟨J,M,hA,cA,_⟩:=aW.out.2 (by omega);subst hA;have bz:=(aW.out.below k.out).below T;obtain⟨b8,b9,cb,cd,ce⟩:=bz.lK a3;have cz:=R a3;have b3:=fun h=>te (l:=L) a3 h;have dH:=fun h=>tf (l:=L) a3 b2.out h;obtain⟨ao,af⟩:=aY b3 dH;have cD:(i:Int) < 140737488351232:=by omega
   have cu:(i:Int) < (nc:Int):=by omega
   have cC:(0:Int)<=(i:Int):=by omega
   clear a3 b3 dH;obtain⟨e,cK⟩:=c;simp only at b8 b9 cb cd ce;have bK:∀j,i=j+1->∃bM,cs[j]? =D bM:=fun j bl=>⟨_,bb (by omega)⟩
   go_wp2_with fail
   have bL:=aQ wr (Y #[B o e.1, B o e.2.1, B o e.2.2.1, B o e.2.2.2, B o cK] 129);have r:Below aU.heap.size aU (wr.alloc (Y #[B o e.1, B o e.2.1, B o e.2.2.1, B o e.2.2.2, B o cK] 129)):=T.alloc T.size _;have bv:=bz.alloc (Y #[B o e.1, B o e.2.1, B o e.2.2.1, B o e.2.2.2, B o cK] 129);have b0:=aD (c9 bY T aG) (Y #[B o e.1, B o e.2.1, B o e.2.2.1, B o e.2.2.2, B o cK] 129);have b1:=aD (c9 f1 T aG) (Y #[B o e.1, B o e.2.1, B o e.2.2.1, B o e.2.2.2, B o cK] 129);have aC:=aD (c9 f2 T aG) (Y #[B o e.1, B o e.2.1, B o e.2.2.1, B o e.2.2.2, B o cK] 129);have aM:=aD aM (Y #[B o e.1, B o e.2.1, B o e.2.2.1, B o e.2.2.2, B o cK] 129)
   clear b8 b9 cb cd ce bz;generalize wr.alloc (Y #[B o e.1, B o e.2.1, B o e.2.2.1, B o e.2.2.2, B o cK] 129)=an at bL bv r b0 b1 aC aM |-;obtain⟨ay,az,aA,aB,aE⟩:=mI bL;have ep:=fun(bn:ac) (a1:Below an.heap.size an bn)=>bR.out bn (k.out.trans ((r.trans (a1.mono r.size)).mono k.out.size)) e;obtain⟨I,bA⟩:=ai (gC L e);rw[<-bA] at ep;obtain⟨bh,am,ch⟩:=cq ep bA bv;clear ep bA bL bv;have a5:eQ L F cs=Q->bj=Q:=fun h=>by rw[bU.out,h];rfl
   have ar:=R a5;clear a5;by_cases bk:i=0
   ·have cw:au (0 < i)=Q:=decide_eq_false (by omega)
    have cx:au ((0:Int) < (i:Int))=Q:=decide_eq_false (by omega);have a7:kC (dV cs i) e=S:=by unfold dV;rw[if_pos bk];rfl
    have a0:=R a7;clear a7 bk bK;by_cases ah:cK=1
    ·subst ah
     have a4:((1:Int) !=1)=Q:=by decide
     refine bW (fin:= ?z1) [B o i, aa Q, aa Q,U,U,U,U,U,U,U,U,U,U,U, aa Q, aa Q, ad (D ⟨wr.heap.size,4,F⟩), B o 1, aa Q, aa Q,U,U,U, aa Q, aa Q, aa Q, aq #[B o (s:Int), B o (z:Int), O Am nm cm, O (D ⟨J,M,F⟩) nc cc], ad (D ⟨wr.heap.size,0,F⟩), aq #[B o e.1, B o e.2.1, B o e.2.2.1, B o e.2.2.2], aa I, aa (!I), aa (!I)] ?hf bp (by kernel_rfl) rfl fun aH a=> ?_;case hf=>simp only[aT,a6,bd,ba,bc];exact rfl
     have av:=R a;obtain⟨q0,aZ,bm,aK,aL,aN,aP,aR,aS⟩:=jV a b0 b1 aC aM ay az aA aB aE;constructor
     ·iterate 32 refine⟨?_,fun K A=> ?_⟩
      ·trivial
      all_goals try (go_simp;exact A _ av.out;done)
      go_simp;exact aw (bh.out _ a) fun wc N=>A _ (ax a N)
     cases I with
     | false=>
      simp only[lk];have b:et L (dV cs i) (e,1)=Q:=by rw[fq];simp only;rw[<-am.out,dJ]
      have y:=R b;clear b;have g:=G.trans ((k.out.trans ((r.trans (a.mono r.size)).mono k.out.size)).mono G.size);have P:=R g;clear g;go_wp2;go_ret;exact⟨cW (ar.out (ao.out y.out)).symm,P.out⟩
     | true=>
      simp only[ll];have b:et L (dV cs i) (e,1)=S:=by rw[fq];simp only;rw[<-am.out,a0.out];decide
      have y:=R b;clear b;have g:=r.trans (a.mono r.size);go_wp2;go_roundw
      case rel=>exact⟨i+1,by omega,by go_num,R (af.out y.out),g⟩
      case measure=>simp[intOf];omega
    by_cases aF:cK=2
    ·subst aF
     have a4:((2:Int) !=1)=S:=by decide
     have bE:((2:Int) !=2)=Q:=by decide
     clear ah;refine bW (fin:= ?z2) [B o i, aa Q, aa Q,U,U,U,U,U,U,U,U,U,U,U, aa Q, aa Q, ad (D ⟨wr.heap.size,4,F⟩), B o 2, aa S, aa S, ad (D ⟨wr.heap.size,4,F⟩), B o 2, aa Q, aa Q, aa Q, aa Q, aq #[B o (s:Int), B o (z:Int), O Am nm cm, O (D ⟨J,M,F⟩) nc cc], ad (D ⟨wr.heap.size,0,F⟩), aq #[B o e.1, B o e.2.1, B o e.2.2.1, B o e.2.2.2], aa I, aa (!I), aa (!I)] ?hf bp (by kernel_rfl) rfl fun aH a=> ?_;case hf=>simp only[aT,a6,bd,ba,bc];exact rfl
     have av:=R a;obtain⟨q0,aZ,bm,aK,aL,aN,aP,aR,aS⟩:=jV a b0 b1 aC aM ay az aA aB aE;constructor
     ·iterate 32 refine⟨?_,fun K A=> ?_⟩
      ·trivial
      all_goals try (go_simp;exact A _ av.out;done)
      go_simp;exact aw (bh.out _ a) fun wc N=>A _ (ax a N)
     cases I with
     | false=>
      simp only[lk];have b:et L (dV cs i) (e,2)=Q:=by rw[fq];simp only;rw[<-am.out,dJ]
      have y:=R b;clear b;have g:=G.trans ((k.out.trans ((r.trans (a.mono r.size)).mono k.out.size)).mono G.size);have P:=R g;clear g;go_wp2;go_ret;exact⟨cW (ar.out (ao.out y.out)).symm,P.out⟩
     | true=>
      simp only[ll];have b:et L (dV cs i) (e,2)=S:=by rw[fq];simp only;rw[<-am.out,a0.out];decide
      have y:=R b;clear b;have g:=r.trans (a.mono r.size);go_wp2;go_roundw
      case rel=>exact⟨i+1,by omega,by go_num,R (af.out y.out),g⟩
      case measure=>simp[intOf];omega
    have a4:(cK !=1)=S:=by simpa using ah
    have bE:(cK !=2)=S:=by simpa using aF
    have b:et L (dV cs i) (e,cK)=Q:=by rw[fq,decide_eq_false (show ¬(cK=1∨cK=2) by omega)];simp
    have y:=R b;clear b ah aF;refine bW (fin:= ?z3) [B o i, aa Q, aa Q,U,U,U,U,U,U,U,U,U,U,U, aa Q, aa Q, ad (D ⟨wr.heap.size,4,F⟩), B o cK, aa S, aa S, ad (D ⟨wr.heap.size,4,F⟩), B o cK, aa S, aa S, aa S, aa S,U,U,U,U,U, aa S] ?hf bp (by kernel_rfl) rfl fun aH a=> ?_;case hf=>simp only[aT,a6,bd,ba,bc];exact rfl
    have af:=R a;obtain⟨q0,aZ,bm,aK,aL,aN,aP,aR,aS⟩:=jV a b0 b1 aC aM ay az aA aB aE;constructor
    ·iterate 32 refine⟨?_,fun K A=> ?_⟩
     ·trivial
     all_goals try (go_simp;exact A _ af.out;done)
    have g:=G.trans ((k.out.trans ((r.trans (a.mono r.size)).mono k.out.size)).mono G.size);have P:=R g;clear g;go_wp2;go_ret;exact⟨cW (ar.out (ao.out y.out)).symm,P.out⟩
   obtain⟨j,bl⟩:∃j,i=j+1:=⟨i-1,by omega⟩;obtain⟨bM,bJ⟩:=bK j bl;obtain⟨E,cy⟩:=bM;have cw:au (0 < i)=S:=decide_eq_true (by omega);have cx:au ((0:Int) < (i:Int))=S:=decide_eq_true (by omega);have cI:b7.wrap ((i:Int)-1)=(j:Int):=by rw[ca _ (by omega)];omega
   have cG:j < nc:=by omega
   have cH:(j:Int) < (nc:Int):=by omega
   have cF:(0:Int)<=(j:Int):=by omega
   have b4:dV cs i=D (E,cy):=by unfold dV;rw[if_neg bk,bl,Nat.add_sub_cancel];exact bJ
   obtain⟨a8,a9,be,bf,_⟩:=ch.out.lK bJ;simp only at a8 a9 be bf;have br:=fun(bn:ac)=>t2 E e bn;obtain⟨ck,bD⟩:=ai (fD E e);rw[<-bD] at br;obtain⟨bg,bV,bX⟩:=cq br b4 bD;clear br bD b4 bl bk bJ bK
   cases ck with
   | false=>
    have b:et L (dV cs i) (e,cK)=Q:=by rw[fq,bV.out];simp[kC,<-bX.out]
    have y:=R b;clear b;refine bW (fin:= ?z4) [B o i, aa S, aa S, ad (D ⟨w.heap.size,3,F⟩), O (D ⟨J,M,F⟩) nc cc, B o i, B o j, ad (D ⟨J,M+j*5,F⟩), ad (D ⟨J,M+j*5,F⟩), aq #[B o E.1, B o E.2.1, B o E.2.2.1, B o E.2.2.2], ad (D ⟨wr.heap.size,0,F⟩), aq #[B o e.1, B o e.2.1, B o e.2.2.1, B o e.2.2.2], aa Q, aa S, aa S, aa S,U,U,U,U,U,U,U,U, aa S, aa S,U,U,U,U,U, aa S] ?hf bp (by kernel_rfl) rfl fun aH a=> ?_;case hf=>simp only[aT,a6,bd,ba,bc];exact rfl
    have af:=R a;obtain⟨q0,aZ,bm,aK,aL,aN,aP,aR,aS,bQ,bN,bO,bP⟩:=ow a b0 b1 aC aM ay az aA aB aE a8 a9 be bf;constructor
    ·iterate 32 refine⟨?_,fun K A=> ?_⟩
     ·trivial
     all_goals try (go_simp;exact A _ af.out;done)
     go_simp;exact aw (bg.out _) fun wc N=>A _ (ax a N)
    have g:=G.trans ((k.out.trans ((r.trans (a.mono r.size)).mono k.out.size)).mono G.size);have P:=R g;clear g;go_wp2;go_ret;exact⟨cW (ar.out (ao.out y.out)).symm,P.out⟩
   | true=>
    have a7:kC (dV cs i) e=S:=by rw[bV.out];simp[kC,<-bX.out]
    have a0:=R a7;clear a7;by_cases ah:cK=1
    ·subst ah
     have a4:((1:Int) !=1)=Q:=by decide
     refine bW (fin:= ?z5) [B o i, aa S, aa S, ad (D ⟨w.heap.size,3,F⟩), O (D ⟨J,M,F⟩) nc cc, B o i, B o j, ad (D ⟨J,M+j*5,F⟩), ad (D ⟨J,M+j*5,F⟩), aq #[B o E.1, B o E.2.1, B o E.2.2.1, B o E.2.2.2], ad (D ⟨wr.heap.size,0,F⟩), aq #[B o e.1, B o e.2.1, B o e.2.2.1, B o e.2.2.2], aa S, aa Q, aa Q, aa Q, ad (D ⟨wr.heap.size,4,F⟩), B o 1, aa Q, aa Q,U,U,U, aa Q, aa Q, aa Q, aq #[B o (s:Int), B o (z:Int), O Am nm cm, O (D ⟨J,M,F⟩) nc cc], ad (D ⟨wr.heap.size,0,F⟩), aq #[B o e.1, B o e.2.1, B o e.2.2.1, B o e.2.2.2], aa I, aa (!I), aa (!I)] ?hf bp (by kernel_rfl) rfl fun aH a=> ?_
     case hf=>simp only[aT,a6,bd,ba,bc];exact rfl
     have av:=R a;obtain⟨q0,aZ,bm,aK,aL,aN,aP,aR,aS,bQ,bN,bO,bP⟩:=ow a b0 b1 aC aM ay az aA aB aE a8 a9 be bf;constructor
     ·iterate 32 refine⟨?_,fun K A=> ?_⟩
      ·trivial
      all_goals try (go_simp;exact A _ av.out;done)
      ·go_simp
       exact aw (bh.out _ a) fun wc N=>A _ (ax a N)
      go_simp;exact aw (bg.out _) fun wc N=>A _ (ax a N)
     cases I with
     | false=>
      simp only[lk];have b:et L (dV cs i) (e,1)=Q:=by rw[fq];simp only;rw[<-am.out,dJ]
      have y:=R b;clear b;have g:=G.trans ((k.out.trans ((r.trans (a.mono r.size)).mono k.out.size)).mono G.size);have P:=R g;clear g;go_wp2;go_ret;exact⟨cW (ar.out (ao.out y.out)).symm,P.out⟩
     | true=>
      simp only[ll];have b:et L (dV cs i) (e,1)=S:=by rw[fq];simp only;rw[<-am.out,a0.out];decide
      have y:=R b;clear b;have g:=r.trans (a.mono r.size);go_wp2;go_roundw
      case rel=>exact⟨i+1,by omega,by go_num,R (af.out y.out),g⟩
      case measure=>simp[intOf];omega
    by_cases aF:cK=2
    ·subst aF
     have a4:((2:Int) !=1)=S:=by decide
     have bE:((2:Int) !=2)=Q:=by decide
     clear ah;refine bW (fin:= ?z6) [B o i, aa S, aa S, ad (D ⟨w.heap.size,3,F⟩), O (D ⟨J,M,F⟩) nc cc, B o i, B o j, ad (D ⟨J,M+j*5,F⟩), ad (D ⟨J,M+j*5,F⟩), aq #[B o E.1, B o E.2.1, B o E.2.2.1, B o E.2.2.2], ad (D ⟨wr.heap.size,0,F⟩), aq #[B o e.1, B o e.2.1, B o e.2.2.1, B o e.2.2.2], aa S, aa Q, aa Q, aa Q, ad (D ⟨wr.heap.size,4,F⟩), B o 2, aa S, aa S, ad (D ⟨wr.heap.size,4,F⟩), B o 2, aa Q, aa Q, aa Q, aa Q, aq #[B o (s:Int), B o (z:Int), O Am nm cm, O (D ⟨J,M,F⟩) nc cc], ad (D ⟨wr.heap.size,0,F⟩), aq #[B o e.1, B o e.2.1, B o e.2.2.1, B o e.2.2.2], aa I, aa (!I), aa (!I)] ?hf bp (by kernel_rfl) rfl fun aH a=> ?_
     case hf=>simp only[aT,a6,bd,ba,bc];exact rfl
     have av:=R a;obtain⟨q0,aZ,bm,aK,aL,aN,aP,aR,aS,bQ,bN,bO,bP⟩:=ow a b0 b1 aC aM ay az aA aB aE a8 a9 be bf;constructor
     ·iterate 32 refine⟨?_,fun K A=> ?_⟩
      ·trivial
      all_goals try (go_simp;exact A _ av.out;done)
      ·go_simp
       exact aw (bh.out _ a) fun wc N=>A _ (ax a N)
      go_simp;exact aw (bg.out _) fun wc N=>A _ (ax a N)
     cases I with
     | false=>
      simp only[lk];have b:et L (dV cs i) (e,2)=Q:=by rw[fq];simp only;rw[<-am.out,dJ]
      have y:=R b;clear b;have g:=G.trans ((k.out.trans ((r.trans (a.mono r.size)).mono k.out.size)).mono G.size);have P:=R g;clear g;go_wp2;go_ret;exact⟨cW (ar.out (ao.out y.out)).symm,P.out⟩
     | true=>
      simp only[ll];have b:et L (dV cs i) (e,2)=S:=by rw[fq];simp only;rw[<-am.out,a0.out];decide
      have y:=R b;clear b;have g:=r.trans (a.mono r.size);go_wp2;go_roundw
      case rel=>exact⟨i+1,by omega,by go_num,R (af.out y.out),g⟩
      case measure=>simp[intOf];omega
    have a4:(cK !=1)=S:=by simpa using ah
    have bE:(cK !=2)=S:=by simpa using aF
    have b:et L (dV cs i) (e,cK)=Q:=by rw[fq,decide_eq_false (show ¬(cK=1∨cK=2) by omega)];simp
    have y:=R b;clear b ah aF;refine bW (fin:= ?z7) [B o i, aa S, aa S, ad (D ⟨w.heap.size,3,F⟩), O (D ⟨J,M,F⟩) nc cc, B o i, B o j, ad (D ⟨J,M+j*5,F⟩), ad (D ⟨J,M+j*5,F⟩), aq #[B o E.1, B o E.2.1, B o E.2.2.1, B o E.2.2.2], ad (D ⟨wr.heap.size,0,F⟩), aq #[B o e.1, B o e.2.1, B o e.2.2.1, B o e.2.2.2], aa S, aa Q, aa Q, aa Q, ad (D ⟨wr.heap.size,4,F⟩), B o cK, aa S, aa S, ad (D ⟨wr.heap.size,4,F⟩), B o cK, aa S, aa S, aa S, aa S,U,U,U,U,U, aa S] ?hf bp (by kernel_rfl) rfl fun aH a=> ?_;case hf=>simp only[aT,a6,bd,ba,bc];exact rfl
    have af:=R a;obtain⟨q0,aZ,bm,aK,aL,aN,aP,aR,aS,bQ,bN,bO,bP⟩:=ow a b0 b1 aC aM ay az aA aB aE a8 a9 be bf;constructor
    ·iterate 32 refine⟨?_,fun K A=> ?_⟩
     ·trivial
     all_goals try (go_simp;exact A _ af.out;done)
     go_simp;exact aw (bg.out _) fun wc N=>A _ (ax a N)
    have g:=G.trans ((k.out.trans ((r.trans (a.mono r.size)).mono k.out.size)).mono G.size);have P:=R g;clear g;go_wp2;go_ret;exact⟨cW (ar.out (ao.out y.out)).symm,P.out⟩
  obtain rfl:i=nc:=by omega
  have cu:¬(i:Int) < (i:Int):=by omega
  have b0:=c9 bY T aG;have b1:=c9 f1 T aG;have aC:=c9 f2 T aG;have aJ:=bS.out wr (k.out.trans (T.mono k.out.size));have hall:eQ L F cs=S:=by have:=b2.out;rwa [List.take_of_length_le (by omega)] at this
  have a5:gc L=bj:=by rw[bU.out,hall,Bool.true_and]
  obtain⟨cg,ci⟩:=aY aJ a5;clear aJ a5 hall
  go_wp2_with (go_at_call 70;refine aw cg.out fun cJ co=> ?_)
  go_ret;exact⟨cW ci.out,G.trans ((k.out.trans ((ax T co).mono k.out.size)).mono G.size)⟩
end
end Go.Proofs.YteaeipgfjmnecaaGreatDoor

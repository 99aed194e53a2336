/- Lemmas; each says its own conditions. -/
import Derived.Test.YteaeipgfjmnecaaGreatDoorK01
import Derived.Laws.StructEq
open And renaming intro->a7
open Bool renaming and_eq_true->cu,eq_false_or_eq_true->jo,eq_iff_iff->e1,false->Q,true->S
open Decidable renaming decide->au
open Go renaming Calls->bB,World->ac,bodyPost_ret->cT
open Go.Instr renaming index->hg
open Int renaming tdiv_eq_ediv_of_nonneg->nH
open Go.IntKind renaming i64->o
open List renaming all_eq_true->dM,getD_eq_getElem?_getD->cf,getElem?_cons_succ->cO,getElem?_cons_zero->cU,getElem?_eq_getElem->bb,getElem?_toArray->cP,getElem_of_mem->j4,length_pos_of_mem->qm,mem_cons->dC,mem_cons_of_mem->iV,mem_cons_self->hi,mem_of_getElem?->cH,nodup_cons->sp,pairwise_lt_range->wB
open Go.Obj renaming cells->Y
open Option renaming none->F,some->D
open Prod.mk renaming injEq->jv
open Go.Proofs.Tryz renaming prog->aj
open Go.Value renaming agg->aq,bool->aa,int->B,slice->O
namespace Go.Proofs.YteaeipgfjmnecaaGreatDoor
set_option linter.unusedSimpArgs false
set_option linter.unusedVariables false
set_option maxHeartbeats 12800000
section
set_option maxRecDepth 100000
open Go.RowKit
variable {b g j:Nat}{u v:Value}{w:ac}
def ci(x y k:Int)(i:Nat):aO:=match i with
 | 0=>eI (2*x+1) (2*y+1) (bY x k) (bZ y k)
 | 1=>eI (bY x k) (bZ y k) (bY x (k+1)) (bZ y (k+1))
 | _=>eI (bY x (k+1)) (bZ y (k+1)) (2*x+1) (2*y+1)
theorem Ce{r:ac}(h:Below w.heap.size w r)(g:Nat)(E:w.heap.size<=g)(a0 ao a2 a4 a5 a6 a8 a9 ba bc a1 a3:Value):Below w.heap.size w ((((((((((((r.setCell ⟨g,0,F⟩ a0).setCell ⟨g,1,F⟩ ao).setCell ⟨g,2,F⟩ a2).setCell ⟨g,3,F⟩ a4).setCell ⟨g,4,F⟩ a5).setCell ⟨g,5,F⟩ a6).setCell ⟨g,6,F⟩ a8).setCell ⟨g,7,F⟩ a9).setCell ⟨g,8,F⟩ ba).setCell ⟨g,9,F⟩ bc).setCell ⟨g,10,F⟩ a1).setCell ⟨g,11,F⟩ a3):=((((((((((((h.setCell E a0).setCell E ao).setCell E a2).setCell E a4).setCell E a5).setCell E a6).setCell E a8).setCell E a9).setCell E ba).setCell E bc).setCell E a1).setCell E a3)
theorem fN{i:Nat}(h:w.cell? ⟨b,j,F⟩=D u)(A:g≠b):(w.setCell ⟨g,i,F⟩ v).cell? ⟨b,j,F⟩=D u:=(World.cell?_setCell_far w _ _ _ A).trans h
theorem mQ(h:w.cell? ⟨b,j,F⟩=D u)(A:g≠b)(a0 ao a2 a4 a5 a6 a8 a9 ba bc a1 a3:Value):((((((((((((w.setCell ⟨g,0,F⟩ a0).setCell ⟨g,1,F⟩ ao).setCell ⟨g,2,F⟩ a2).setCell ⟨g,3,F⟩ a4).setCell ⟨g,4,F⟩ a5).setCell ⟨g,5,F⟩ a6).setCell ⟨g,6,F⟩ a8).setCell ⟨g,7,F⟩ a9).setCell ⟨g,8,F⟩ ba).setCell ⟨g,9,F⟩ bc).setCell ⟨g,10,F⟩ a1).setCell ⟨g,11,F⟩ a3).cell? ⟨b,j,F⟩=D u:=(fN (fN (fN (fN (fN (fN (fN (fN (fN (fN (fN (fN h A) A) A) A) A) A) A) A) A) A) A) A)
theorem aD{a:Addr}(h:w.cell? a=D v)(af:Obj):(w.alloc af).cell? a=D v:=V h (aV w af)
abbrev dQ(x y k:Int):Value:= aq #[B o x, B o y, B o k]
abbrev kS(a b c:aO):Value:= aq #[B o a.1, B o a.2.1, B o a.2.2.1, B o a.2.2.2, B o b.1, B o b.2.1, B o b.2.2.1, B o b.2.2.2, B o c.1, B o c.2.1, B o c.2.2.1, B o c.2.2.2]
def wL(w:ac)(e:Ending)(a b c:aO):Prop:=∃g,e= .returned (O (D ⟨g,0,F⟩) 3 3)/\w.heap[g]? =D (Y #[B o a.1, B o a.2.1, B o a.2.2.1, B o a.2.2.2, B o b.1, B o b.2.1, B o b.2.2.1, B o b.2.2.2, B o c.1, B o c.2.1, B o c.2.2.1, B o c.2.2.2] 42 (0,0))
theorem n4(x y k:Int)(w:ac)(bv:Steps w)(bf: -1000000<=x)(bg:x<=1000000)(bh: -1000000<=y)(bi:y<=1000000)(bd:0<=k)(be:k<=3):
  bB aj 89 #[dQ x y k] w fun e Z=>e= .returned (kS (ci x y k 0) (ci x y k 1) (ci x y k 2))/\Below w.heap.size w Z:=by
 obtain⟨G,aP⟩:∃a:Int,a=bY x k:=⟨_,rfl⟩;have T:=R aP;clear aP;obtain⟨J,aR⟩:∃a:Int,a=bZ y k:=⟨_,rfl⟩;have ab:=R aR;clear aR;obtain⟨I,aQ⟩:∃a:Int,a=bY x (k+1):=⟨_,rfl⟩;have U:=R aQ;clear aQ;obtain⟨K,aS⟩:∃a:Int,a=bZ y (k+1):=⟨_,rfl⟩;have ad:=R aS;clear aS;obtain⟨bj,aK⟩:∃a:aO,a=eI (2*x+1) (2*y+1) G J:=⟨_,rfl⟩;have aC:=R aK;clear aK;obtain⟨bk,aL⟩:∃a:aO,a=eI G J I K:=⟨_,rfl⟩;have aE:=R aL;clear aL;obtain⟨bl,aM⟩:∃a:aO,a=eI I K (2*x+1) (2*y+1):=⟨_,rfl⟩;have aF:=R aM;clear aM;go_in
 go_wp2_with fail
 refine(tb x y k _ ((bv.alloc _).alloc _) bf bg bh bi bd be).mono ?_;rintro e r ⟨z,N⟩;rw[<-T.out,<-ab.out,<-U.out,<-ad.out] at z;subst z;have P:r.heap[w.heap.size]? =D (Y #[B o x, B o y, B o k] 53 (0,0)):=aG (aW (dE (Y #[B o x, B o y, B o k] 53) (by first | rfl | (simp;done) | (simp;omega))) _) N (by first | (simp;done) | (simp;omega));have aZ:r.heap[w.heap.size+1]? =D (Y #[B o 0, B o 0, B o 0, B o 0, B o 0, B o 0, B o 0, B o 0, B o 0, B o 0, B o 0, B o 0] 145 (0,0)):=aG (dE (Y #[B o 0, B o 0, B o 0, B o 0, B o 0, B o 0, B o 0, B o 0, B o 0, B o 0, B o 0, B o 0] 145) (by first | rfl | (simp;done) | (simp;omega))) N (by first | (simp;done) | (simp;omega))
 have aY:Below w.heap.size w r:=ax (aN (aN aX _) _) N;have bO:=((bv.alloc _).alloc _).below N;clear N;obtain⟨bm,bn,bo⟩:=dl P;have bp:=br P;have bu:=am P;obtain⟨bx,bz,bD,bE,bF,bG,bH,bI,bJ,bK,bA,bC⟩:=nX aZ;have bL:=br aZ;have bP:=am aZ
 go_wp2_with fail
 have aU:((r.alloc (Y #[B o (2*x+1), B o (2*y+1), B o G, B o J, B o I, B o K] 117)).drew).heap[r.heap.size]? =D (Y #[B o (2*x+1), B o (2*y+1), B o G, B o J, B o I, B o K] 117 (0,0)):=heap_alloc_new r _;have l:((r.alloc (Y #[B o (2*x+1), B o (2*y+1), B o G, B o J, B o I, B o K] 117)).drew).heap[w.heap.size+1]? =D (Y #[B o 0, B o 0, B o 0, B o 0, B o 0, B o 0, B o 0, B o 0, B o 0, B o 0, B o 0, B o 0] 145 (0,0)):=aW aZ _;have A:w.heap.size+1≠r.heap.size:=by omega
 have bM:w.heap.size<=w.heap.size+1:=by omega
 have aT:Below w.heap.size w ((r.alloc (Y #[B o (2*x+1), B o (2*y+1), B o G, B o J, B o I, B o K] 117)).drew):=(aN aY _).drew;obtain⟨d0,d1,d2,aH,aI,aJ⟩:=cx aU;clear aU aZ P bm bn bo bp bu bx bz bD bE bF bG bH bI bJ bK bA bC bL bP aY bO;have bs:=a7 d0 (a7 d1 (a7 d2 (a7 aH (a7 aI (a7 aJ aT)))));clear d0 d1 d2 aH aI aJ aT
 go_region_held3 (fun Z=>Z.cell? ⟨r.heap.size,0,F⟩=D (B o (2*x+1))/\Z.cell? ⟨r.heap.size,1,F⟩=D (B o (2*y+1))/\Z.cell? ⟨r.heap.size,2,F⟩=D (B o (G))/\Z.cell? ⟨r.heap.size,3,F⟩=D (B o (J))/\Z.cell? ⟨r.heap.size,4,F⟩=D (B o (I))/\Z.cell? ⟨r.heap.size,5,F⟩=D (B o (K))/\Below w.heap.size w Z)
  (first
   | with_reducible exact bs
   | (go_split_ands;with_reducible exact⟨mQ ‹_› A _ _ _ _ _ _ _ _ _ _ _ _,mQ ‹_› A _ _ _ _ _ _ _ _ _ _ _ _,mQ ‹_› A _ _ _ _ _ _ _ _ _ _ _ _,mQ ‹_› A _ _ _ _ _ _ _ _ _ _ _ _,mQ ‹_› A _ _ _ _ _ _ _ _ _ _ _ _,mQ ‹_› A _ _ _ _ _ _ _ _ _ _ _ _,Ce ‹_› _ bM _ _ _ _ _ _ _ _ _ _ _ _⟩)
   | (go_split_ands;with_reducible exact⟨V ‹_› s,V ‹_› s,V ‹_› s,V ‹_› s,V ‹_› s,V ‹_› s,ax ‹_› s⟩))
  (first
    | ((with_reducible refine(pW (2*x+1) (2*y+1) G J _).mono ?_);rintro e wc ⟨z,s⟩;rw[<-aC.out] at z;subst z;have l:=aG l s (am l);have bw:=br l;have ae:=aB l 0;have ag:=aB l 1;have al:=aB l 2;have an:=aB l 3;have ar:=aB l 4;have av:=aB l 5;have aw:=aB l 6;have ay:=aB l 7;have az:=aB l 8;have aA:=aB l 9;have ah:=aB l 10;have ai:=aB l 11;simp only[cP,cU,cO] at ae ag al an ar av aw ay az aA ah ai)
    | ((with_reducible refine(pW G J I K _).mono ?_);rintro e wc ⟨z,s⟩;rw[<-aE.out] at z;subst z;have l:=aG l s (am l);have bw:=br l;have ae:=aB l 0;have ag:=aB l 1;have al:=aB l 2;have an:=aB l 3;have ar:=aB l 4;have av:=aB l 5;have aw:=aB l 6;have ay:=aB l 7;have az:=aB l 8;have aA:=aB l 9;have ah:=aB l 10;have ai:=aB l 11;simp only[cP,cU,cO] at ae ag al an ar av aw ay az aA ah ai)
    | ((with_reducible refine(pW I K (2*x+1) (2*y+1) _).mono ?_);rintro e wc ⟨z,s⟩;rw[<-aF.out] at z;subst z;have l:=aG l s (am l);have bw:=br l;have ae:=aB l 0;have ag:=aB l 1;have al:=aB l 2;have an:=aB l 3;have ar:=aB l 4;have av:=aB l 5;have aw:=aB l 6;have ay:=aB l 7;have az:=aB l 8;have aA:=aB l 9;have ah:=aB l 10;have ai:=aB l 11;simp only[cP,cU,cO] at ae ag al an ar av aw ay az aA ah ai))
 rename_i bq
 obtain⟨_,_,_,_,_,_,bt⟩:=bq;go_wp2;exact cT (v:=kS bj bk bl) (by simp[results,Tryz.results89,go_sem,ae,ag,al,an,ar,av,aw,ay,az,aA,ah,ai]) rfl ⟨by rw[aC.out,aE.out,aF.out,T.out,U.out,ab.out,ad.out];rfl,bt⟩
theorem ta(x y k:Int)(w:ac)(bf: -2000000<=x)(bg:x<=2000000)(bh: -2000000<=y)(bi:y<=2000000)(bd:0<=k)(be:k<=3):
  bB aj 77 #[aq #[B o x, B o y, B o k]] w fun e Z=>sz Z e (2*x+1) (2*y+1) (bY x k) (bZ y k) (bY x (k+1)) (bZ y (k+1))/\Below w.heap.size w Z:=by
 have bN:k=0∨k=1∨k=2∨k=3:=by omega
 rcases bN with rfl | rfl | rfl | rfl
 ·have ap:bY x 0=2*x:=by simp[bY,eK];try omega
  have ak:bZ y 0=2*y:=by simp[bZ,eL];try omega
  have L:bY x (0+1)=2*x+2:=by simp[bY,eK];try omega
  have M:bZ y (0+1)=2*y:=by simp[bZ,eL];try omega
  rw[ap,ak,L,M];clear ap ak L M;go_in
  go_wp2_with fail
  go_quiet (fail)
  go_wp2;go_ret;refine⟨⟨_,rfl, ?_⟩, ?_⟩;·exact dE _ (by simp)
  ·exact aN (aN (aN (aN (aN (aN (below_drewN (aN aX _) _) _) _) _) _) _) _
 ·have ap:bY x 1=2*x+2:=by simp[bY,eK];try omega
  have ak:bZ y 1=2*y:=by simp[bZ,eL];try omega
  have L:bY x (1+1)=2*x+2:=by simp[bY,eK];try omega
  have M:bZ y (1+1)=2*y+2:=by simp[bZ,eL];try omega
  rw[ap,ak,L,M];clear ap ak L M;go_in
  go_wp2_with fail
  go_quiet (fail)
  go_wp2;go_ret;refine⟨⟨_,rfl, ?_⟩, ?_⟩;·exact dE _ (by simp)
  ·exact aN (aN (aN (aN (aN (aN (below_drewN (aN aX _) _) _) _) _) _) _) _
 ·have ap:bY x 2=2*x+2:=by simp[bY,eK];try omega
  have ak:bZ y 2=2*y+2:=by simp[bZ,eL];try omega
  have L:bY x (2+1)=2*x:=by simp[bY,eK];try omega
  have M:bZ y (2+1)=2*y+2:=by simp[bZ,eL];try omega
  rw[ap,ak,L,M];clear ap ak L M;go_in
  go_wp2_with fail
  go_quiet (fail)
  go_wp2;go_ret;refine⟨⟨_,rfl, ?_⟩, ?_⟩;·exact dE _ (by simp)
  ·exact aN (aN (aN (aN (aN (aN (below_drewN (aN aX _) _) _) _) _) _) _) _
 have ap:bY x 3=2*x:=by simp[bY,eK];try omega
 have ak:bZ y 3=2*y+2:=by simp[bZ,eL];try omega
 have L:bY x (3+1)=2*x:=by simp[bY,eK];try omega
 have M:bZ y (3+1)=2*y:=by simp[bZ,eL];try omega
 rw[ap,ak,L,M];clear ap ak L M;go_in
 go_wp2_with fail
 go_quiet (fail)
 go_wp2;go_ret;refine⟨⟨_,rfl, ?_⟩, ?_⟩;·exact dE _ (by simp)
 ·exact aN (aN (aN (aN (aN (aN (below_drewN (aN aX _) _) _) _) _) _) _) _
theorem mP(x y k:Int)(w:ac)(bf: -2000000<=x)(bg:x<=2000000)(bh: -2000000<=y)(bi:y<=2000000)(bd:0<=k)(be:k<=3):
  bB aj 71 #[dQ x y k] w fun e Z=>wL Z e (ci x y k 0) (ci x y k 1) (ci x y k 2)/\Below w.heap.size w Z:=by
 obtain⟨G,aP⟩:∃a:Int,a=bY x k:=⟨_,rfl⟩;have T:=R aP;clear aP;obtain⟨J,aR⟩:∃a:Int,a=bZ y k:=⟨_,rfl⟩;have ab:=R aR;clear aR;obtain⟨I,aQ⟩:∃a:Int,a=bY x (k+1):=⟨_,rfl⟩;have U:=R aQ;clear aQ;obtain⟨K,aS⟩:∃a:Int,a=bZ y (k+1):=⟨_,rfl⟩;have ad:=R aS;clear aS;obtain⟨bj,aK⟩:∃a:aO,a=eI (2*x+1) (2*y+1) G J:=⟨_,rfl⟩;have aC:=R aK;clear aK;obtain⟨bk,aL⟩:∃a:aO,a=eI G J I K:=⟨_,rfl⟩;have aE:=R aL;clear aL;obtain⟨bl,aM⟩:∃a:aO,a=eI I K (2*x+1) (2*y+1):=⟨_,rfl⟩;have aF:=R aM;clear aM;go_in
 go_wp2_with fail
 refine(ta x y k _ bf bg bh bi bd be).mono ?_;rintro e r ⟨⟨g,z,E⟩,N⟩;subst z;rw[<-T.out,<-ab.out,<-U.out,<-ad.out] at E;have P:r.heap[w.heap.size]? =D (Y #[B o x, B o y, B o k] 53 (0,0)):=aG (dE (Y #[B o x, B o y, B o k] 53) (by first | rfl | (simp;done) | (simp;omega))) N (by first | (simp;done) | (simp;omega));have aY:Below w.heap.size w r:=ax (aN aX _) N;clear N;obtain⟨bm,bn,bo⟩:=dl P;have bp:=br P;have bu:=am P
 go_wp2_with fail
 have aU:r.drew.heap[g]? =D (Y #[B o (2*x+1), B o (2*y+1), B o G, B o J, B o I, B o K] 40 (0,0)):=E;have aT:Below w.heap.size w r.drew:=aY.drew;obtain⟨d0,d1,d2,aH,aI,aJ⟩:=cx aU;have bQ:=am E;clear aU E P bm bn bo bp bu aY;have bs:=a7 d0 (a7 d1 (a7 d2 (a7 aH (a7 aI (a7 aJ aT)))));clear d0 d1 d2 aH aI aJ aT
 go_region_held3 (fun Z=>Z.cell? ⟨g,0,F⟩=D (B o (2*x+1))/\Z.cell? ⟨g,1,F⟩=D (B o (2*y+1))/\Z.cell? ⟨g,2,F⟩=D (B o (G))/\Z.cell? ⟨g,3,F⟩=D (B o (J))/\Z.cell? ⟨g,4,F⟩=D (B o (I))/\Z.cell? ⟨g,5,F⟩=D (B o (K))/\Below w.heap.size w Z)
  (first
   | with_reducible exact bs
   | (go_split_ands;with_reducible exact⟨aD ‹_› _,aD ‹_› _,aD ‹_› _,aD ‹_› _,aD ‹_› _,aD ‹_› _,aN ‹_› _⟩)
   | (go_split_ands;with_reducible exact⟨V ‹_› s,V ‹_› s,V ‹_› s,V ‹_› s,V ‹_› s,V ‹_› s,ax ‹_› s⟩))
  (first
    | ((with_reducible refine(pN (2*x+1) (2*y+1) G J _).mono ?_);rintro e wc ⟨z,s⟩;rw[<-aC.out] at z;subst z)
    | ((with_reducible refine(pN G J I K _).mono ?_);rintro e wc ⟨z,s⟩;rw[<-aE.out] at z;subst z)
    | ((with_reducible refine(pN I K (2*x+1) (2*y+1) _).mono ?_);rintro e wc ⟨z,s⟩;rw[<-aF.out] at z;subst z))
 rename_i bq
 obtain⟨_,_,_,_,_,_,bt⟩:=bq;go_wp2;go_ret;refine⟨?_,bt⟩;rw[show ci x y k 0=bj by rw[aC.out,T.out,ab.out];rfl,show ci x y k 1=bk by rw[aE.out,T.out,ab.out,U.out,ad.out];rfl,show ci x y k 2=bl by rw[aF.out,U.out,ad.out];rfl];exact⟨_,rfl,dE _ rfl⟩
end
section
set_option maxRecDepth 100000
section
open Go.RowKit
def db:List (Int×Int)->Bool
 | []=>S
 | (a,b)::l=>(a==b) && db l
theorem fs(a0 ao b0 b1:Int)(w:ac):(binOp .eql 40 (aq #[B o a0, B o ao]) (aq #[B o b0, B o b1])).run aj w= .ok (aa (db [(a0,b0),(ao,b1)])) w:=by
 simp[go_sem,db]
 repeat (first | rfl | (split <;> simp_all))
theorem q2(a0 ao a2 an b0 b1 aC aM:Int)(w:ac):(binOp .eql 42 (aq #[B o a0, B o ao, B o a2, B o an]) (aq #[B o b0, B o b1, B o aC, B o aM])).run aj w= .ok (aa (db [(a0,b0),(ao,b1),(a2,aC),(an,aM)])) w:=by
 simp[go_sem,db]
 repeat (first | rfl | (split <;> simp_all))
theorem n5(a0 ao a2 b0 b1 aC:Int)(w:ac):(binOp .eql 53 (aq #[B o a0, B o ao, B o a2]) (aq #[B o b0, B o b1, B o aC])).run aj w= .ok (aa (db [(a0,b0),(ao,b1),(a2,aC)])) w:=by
 simp[go_sem,db]
 repeat (first | rfl | (split <;> simp_all))
theorem AN(a0 ao a2 an b0 b1 aC aM:Int)(w:ac):(binOp .neq 42 (aq #[B o a0, B o ao, B o a2, B o an]) (aq #[B o b0, B o b1, B o aC, B o aM])).run aj w= .ok (aa (!(db [(a0,b0),(ao,b1),(a2,aC),(an,aM)]))) w:=by
 simp[go_sem,db]
 repeat (first | rfl | (split <;> simp_all))
theorem jJ(a0 ao a2 b0 b1 aC:Int)(w:ac):(binOp .neq 53 (aq #[B o a0, B o ao, B o a2]) (aq #[B o b0, B o b1, B o aC])).run aj w= .ok (aa (!(db [(a0,b0),(ao,b1),(a2,aC)]))) w:=by
 simp[go_sem,db]
 repeat (first | rfl | (split <;> simp_all))
end
section
open Go.RowKit
def dA(a b:aO):Bool:=db [(a.1,b.1),(a.2.1,b.2.1),(a.2.2.1,b.2.2.1),(a.2.2.2,b.2.2.2)]
theorem hB(a b:aO):dA a b=S↔a=b:=by
 obtain⟨ao,a2,an,bn⟩:=a;obtain⟨b1,aC,aM,bo⟩:=b;simp[dA,db]
def gW(x y k:Int)(m:aO):Bool:=dA (ci x y k 0) m || dA (ci x y k 1) m || dA (ci x y k 2) m
def kq(a b c m:aO):Int:=if dA m a then 0 else if dA m b then 1 else if dA m c then 2 else -1
theorem iP(a b:aO)(w:ac):(binOp .eql 42 (bS a) (bS b)).run aj w= .ok (aa (dA a b)) w:=q2 ..
theorem yL(x y k:Int)(m:aO)(w:ac)(L: -2000000<=x)(M:x<=2000000)(N: -2000000<=y)(P:y<=2000000)(J:0<=k)(K:k<=3)(q0:dA (ci x y k 0) m=S):
  bB aj 111 #[dQ x y k,bS m] w fun e Z=>e= .returned (aa (S))/\Below w.heap.size w Z:=by
 obtain⟨ar,ad⟩:∃a:aO,a=ci x y k 0:=⟨_,rfl⟩;have T:=R ad;clear ad;obtain⟨aB,ae⟩:∃a:aO,a=ci x y k 1:=⟨_,rfl⟩;have ag:=R ae;clear ae;obtain⟨av,af⟩:∃a:aO,a=ci x y k 2:=⟨_,rfl⟩;have al:=R af;clear af;rw[<-T.out] at q0;have bQ:=R q0;clear q0;go_in
 go_wp2_with fail
 refine(mP x y k _ L M N P J K).mono ?_;rintro e I ⟨⟨g,az,G⟩,z⟩;subst az;rw[<-T.out,<-ag.out,<-al.out] at G;have E:I.heap[w.heap.size]? =D (Y #[B o x, B o y, B o k] 53 (0,0)):=aG (aW (dE (Y #[B o x, B o y, B o k] 53) (by first | rfl | (simp;done) | (simp;omega))) _) z (by first | (simp;done) | (simp;omega));have A:I.heap[w.heap.size+1]? =D (Y #[B o (m.1), B o (m.2.1), B o (m.2.2.1), B o (m.2.2.2)] 42 (0,0)):=aG (dE (Y #[B o (m.1), B o (m.2.1), B o (m.2.2.1), B o (m.2.2.2)] 42) (by first | rfl | (simp;done) | (simp;omega))) z (by first | (simp;done) | (simp;omega));have aA:Below w.heap.size w I:=ax (aN (aN aX _) _) z;clear z;obtain⟨aS,aT,aU⟩:=dl E
 have bg:=br E;have bk:=am E;obtain⟨aL,aP,aQ,aR⟩:=dm A;have bf:=br A;have bj:=am A;obtain⟨d0,d1,d2,a4,a5,a6,a8,a9,ba,bc,aV,a3⟩:=nX G;clear G E A;have r0:∀w:ac,(binOp .eql 42 (bS ar) (bS m)).run aj w= .ok (aa S) w:=fun w=>by rw[iP,bQ.out]
 go_wp2_with fail
 go_quiet (fail)
 go_wp2;go_ret;exact⟨rfl,below_drewN aA _⟩
theorem yM(x y k:Int)(m:aO)(w:ac)(L: -2000000<=x)(M:x<=2000000)(N: -2000000<=y)(P:y<=2000000)(J:0<=k)(K:k<=3)(q0:dA (ci x y k 0) m=Q)(aZ:dA (ci x y k 1) m=S):
  bB aj 111 #[dQ x y k,bS m] w fun e Z=>e= .returned (aa (S))/\Below w.heap.size w Z:=by
 obtain⟨ar,ad⟩:∃a:aO,a=ci x y k 0:=⟨_,rfl⟩;have T:=R ad;clear ad;obtain⟨aB,ae⟩:∃a:aO,a=ci x y k 1:=⟨_,rfl⟩;have ag:=R ae;clear ae;obtain⟨av,af⟩:∃a:aO,a=ci x y k 2:=⟨_,rfl⟩;have al:=R af;clear af;rw[<-T.out] at q0;rw[<-ag.out] at aZ;obtain⟨bQ,bI⟩:=aY q0 aZ;clear q0 aZ;go_in
 go_wp2_with fail
 refine(mP x y k _ L M N P J K).mono ?_;rintro e I ⟨⟨g,az,G⟩,z⟩;subst az;rw[<-T.out,<-ag.out,<-al.out] at G;have E:I.heap[w.heap.size]? =D (Y #[B o x, B o y, B o k] 53 (0,0)):=aG (aW (dE (Y #[B o x, B o y, B o k] 53) (by first | rfl | (simp;done) | (simp;omega))) _) z (by first | (simp;done) | (simp;omega));have A:I.heap[w.heap.size+1]? =D (Y #[B o (m.1), B o (m.2.1), B o (m.2.2.1), B o (m.2.2.2)] 42 (0,0)):=aG (dE (Y #[B o (m.1), B o (m.2.1), B o (m.2.2.1), B o (m.2.2.2)] 42) (by first | rfl | (simp;done) | (simp;omega))) z (by first | (simp;done) | (simp;omega));have aA:Below w.heap.size w I:=ax (aN (aN aX _) _) z;clear z;obtain⟨aS,aT,aU⟩:=dl E
 have bg:=br E;have bk:=am E;obtain⟨aL,aP,aQ,aR⟩:=dm A;have bf:=br A;have bj:=am A;obtain⟨d0,d1,d2,a4,a5,a6,a8,a9,ba,bc,aV,a3⟩:=nX G;clear G E A;have r0:∀w:ac,(binOp .eql 42 (bS ar) (bS m)).run aj w= .ok (aa Q) w:=fun w=>by rw[iP,bQ.out]
 have cN:∀w:ac,(binOp .eql 42 (bS aB) (bS m)).run aj w= .ok (aa S) w:=fun w=>by rw[iP,bI.out]
 go_wp2_with fail
 go_quiet (fail)
 go_wp2;go_ret;exact⟨rfl,below_drewN aA _⟩
theorem yN(x y k:Int)(m:aO)(w:ac)(L: -2000000<=x)(M:x<=2000000)(N: -2000000<=y)(P:y<=2000000)(J:0<=k)(K:k<=3)(q0:dA (ci x y k 0) m=Q)(aZ:dA (ci x y k 1) m=Q):
  bB aj 111 #[dQ x y k,bS m] w fun e Z=>e= .returned (aa (dA (ci x y k 2) m))/\Below w.heap.size w Z:=by
 obtain⟨ar,ad⟩:∃a:aO,a=ci x y k 0:=⟨_,rfl⟩;have T:=R ad;clear ad;obtain⟨aB,ae⟩:∃a:aO,a=ci x y k 1:=⟨_,rfl⟩;have ag:=R ae;clear ae;obtain⟨av,af⟩:∃a:aO,a=ci x y k 2:=⟨_,rfl⟩;have al:=R af;clear af;rw[<-T.out] at q0;rw[<-ag.out] at aZ;rw[show dA (ci x y k 2) m=dA av m by rw[al.out]];obtain⟨bQ,bI⟩:=aY q0 aZ;clear q0 aZ;go_in
 go_wp2_with fail
 refine(mP x y k _ L M N P J K).mono ?_;rintro e I ⟨⟨g,az,G⟩,z⟩;subst az;rw[<-T.out,<-ag.out,<-al.out] at G;have E:I.heap[w.heap.size]? =D (Y #[B o x, B o y, B o k] 53 (0,0)):=aG (aW (dE (Y #[B o x, B o y, B o k] 53) (by first | rfl | (simp;done) | (simp;omega))) _) z (by first | (simp;done) | (simp;omega));have A:I.heap[w.heap.size+1]? =D (Y #[B o (m.1), B o (m.2.1), B o (m.2.2.1), B o (m.2.2.2)] 42 (0,0)):=aG (dE (Y #[B o (m.1), B o (m.2.1), B o (m.2.2.1), B o (m.2.2.2)] 42) (by first | rfl | (simp;done) | (simp;omega))) z (by first | (simp;done) | (simp;omega));have aA:Below w.heap.size w I:=ax (aN (aN aX _) _) z;clear z;obtain⟨aS,aT,aU⟩:=dl E
 have bg:=br E;have bk:=am E;obtain⟨aL,aP,aQ,aR⟩:=dm A;have bf:=br A;have bj:=am A;obtain⟨d0,d1,d2,a4,a5,a6,a8,a9,ba,bc,aV,a3⟩:=nX G;clear G E A;have r0:∀w:ac,(binOp .eql 42 (bS ar) (bS m)).run aj w= .ok (aa Q) w:=fun w=>by rw[iP,bQ.out]
 have cN:∀w:ac,(binOp .eql 42 (bS aB) (bS m)).run aj w= .ok (aa Q) w:=fun w=>by rw[iP,bI.out]
 have ct:∀w:ac,(binOp .eql 42 (bS av) (bS m)).run aj w= .ok (aa (dA av m)) w:=fun w=>iP ..
 go_wp2_with fail
 go_quiet (fail)
 go_wp2;go_ret;exact⟨rfl,below_drewN aA _⟩
theorem pa(x y k:Int)(m:aO)(w:ac)(L: -2000000<=x)(M:x<=2000000)(N: -2000000<=y)(P:y<=2000000)(J:0<=k)(K:k<=3):
  bB aj 111 #[dQ x y k,bS m] w fun e Z=>e= .returned (aa (gW x y k m))/\Below w.heap.size w Z:=by
 unfold gW;cases q0:dA (ci x y k 0) m
 ·cases aZ:dA (ci x y k 1) m
  ·exact yN x y k m w L M N P J K q0 aZ
  ·exact yM x y k m w L M N P J K q0 aZ
 ·exact yL x y k m w L M N P J K q0
end
section
open Go.RowKit
theorem zc(a b c m:aO)(g:Nat)(w:ac)(aJ:w.heap[g]? =D (Y #[B o (a.1), B o (a.2.1), B o (a.2.2.1), B o (a.2.2.2), B o (b.1), B o (b.2.1), B o (b.2.2.1), B o (b.2.2.2), B o (c.1), B o (c.2.1), B o (c.2.2.1), B o (c.2.2.2)] 145 (0,0))):
  bB aj 115 #[O (D ⟨g,0,F⟩) 3 3,bS m] w fun e Z=>e= .returned (B o (kq a b c m))/\Below w.heap.size w Z:=by
 obtain⟨aw,aI⟩:=ai (kq a b c m);rw[<-aI];have aF:Hid ((dA m a=S->aw=0)/\(dA m a=Q->dA m b=S->aw=1)/\(dA m a=Q->dA m b=Q->dA m c=S->aw=2)/\(dA m a=Q->dA m b=Q->dA m c=Q->aw= -1)):=R (by rw[aI];refine⟨?_, ?_, ?_, ?_⟩ <;> intros <;> simp[kq, *])
 clear aI;have bq:=am aJ;obtain⟨a1,c1,c2,bV,bC,b8,dk,jC,i2,hr,kW,kX⟩:=nX aJ;have a1:=aD a1 (Y #[B o (m.1), B o (m.2.1), B o (m.2.2.1), B o (m.2.2.2)] 42);have c1:=aD c1 (Y #[B o (m.1), B o (m.2.1), B o (m.2.2.1), B o (m.2.2.2)] 42);have c2:=aD c2 (Y #[B o (m.1), B o (m.2.1), B o (m.2.2.1), B o (m.2.2.2)] 42);have bV:=aD bV (Y #[B o (m.1), B o (m.2.1), B o (m.2.2.1), B o (m.2.2.2)] 42);have bC:=aD bC (Y #[B o (m.1), B o (m.2.1), B o (m.2.2.1), B o (m.2.2.2)] 42);have b8:=aD b8 (Y #[B o (m.1), B o (m.2.1), B o (m.2.2.1), B o (m.2.2.2)] 42);have dk:=aD dk (Y #[B o (m.1), B o (m.2.1), B o (m.2.2.1), B o (m.2.2.2)] 42);have jC:=aD jC (Y #[B o (m.1), B o (m.2.1), B o (m.2.2.1), B o (m.2.2.2)] 42)
 have i2:=aD i2 (Y #[B o (m.1), B o (m.2.1), B o (m.2.2.1), B o (m.2.2.2)] 42);have hr:=aD hr (Y #[B o (m.1), B o (m.2.1), B o (m.2.2.1), B o (m.2.2.2)] 42);have kW:=aD kW (Y #[B o (m.1), B o (m.2.1), B o (m.2.2.1), B o (m.2.2.2)] 42);have kX:=aD kX (Y #[B o (m.1), B o (m.2.1), B o (m.2.2.1), B o (m.2.2.2)] 42);clear aJ;have bh:Below w.heap.size w (w.alloc (Y #[B o (m.1), B o (m.2.1), B o (m.2.2.1), B o (m.2.2.2)] 42)):=aN aX _;have bi:=heap_alloc_new w (Y #[B o (m.1), B o (m.2.1), B o (m.2.2.1), B o (m.2.2.2)] 42);obtain⟨bd,ap,ak,be⟩:=dm bi;clear bi;have bp:w.heap.size<=w.heap.size:=ce;go_in;go_wp2;go_loopw [8] (fun i wr=>∃n:Nat,n<=3/\i= B o n/\(0 < n->dA m a=Q)/\(1 < n->dA m b=Q)/\(2 < n->dA m c=Q)/\Below (w.alloc (Y #[B o (m.1), B o (m.2.1), B o (m.2.2.1), B o (m.2.2.2)] 42)).heap.size (w.alloc (Y #[B o (m.1), B o (m.2.1), B o (m.2.2.1), B o (m.2.2.2)] 42)) wr) (fun i _=>3-(intOf i).toNat)
 case atStart=>exact⟨0,by omega,rfl,by omega,by omega,by omega,aX⟩
 obtain⟨n,hn,rfl,U,V,ab,ay⟩:=hrel;obtain⟨a1,c1,c2,bV,bC,b8,dk,jC,i2,hr,kW,kX,bd,ap,ak,be⟩:=vv ay a1 c1 c2 bV bC b8 dk jC i2 hr kW kX bd ap ak be;have aH:Below w.heap.size w wr:=bh.trans (ay.mono bh.size);have bm:n=0∨n=1∨n=2∨n=3:=by omega
 rcases bm with rfl | rfl | rfl | rfl
 ·have ah:=R U
  obtain⟨aE,aK⟩:=aY V ab;clear U V ab;rcases jo (dA m a) with q | q
  ·have s:=R q
   clear q;have r:∀w:ac,(binOp .eql 42 (bS m) (bS a)).run aj w= .ok (aa S) w:=fun w=>by rw[iP,s.out]
   go_wp2_with fail
   go_quiet (fail)
   go_wp2;go_ret;exact⟨by rw[aF.out.1 s.out];rfl,below_drewN aH _⟩
  have s:=R q;clear q;have r:∀w:ac,(binOp .eql 42 (bS m) (bS a)).run aj w= .ok (aa Q) w:=fun w=>by rw[iP,s.out]
  go_wp2_with fail
  go_quiet (fail)
  go_wp2;go_roundw
  case rel=>exact⟨1,by omega,rfl,(fun _=>s.out),(fun h=>absurd h (by omega)),(fun h=>absurd h (by omega)),below_drewN ay _⟩
  case measure=>simp[intOf]
 ·have ah:=R U
  obtain⟨aE,aK⟩:=aY V ab;clear U V ab;rcases jo (dA m b) with q | q
  ·have s:=R q
   clear q;have r:∀w:ac,(binOp .eql 42 (bS m) (bS b)).run aj w= .ok (aa S) w:=fun w=>by rw[iP,s.out]
   go_wp2_with fail
   go_quiet (fail)
   go_wp2;go_ret;exact⟨by rw[aF.out.2.1 (ah.out (by omega)) s.out];rfl,below_drewN aH _⟩
  have s:=R q;clear q;have r:∀w:ac,(binOp .eql 42 (bS m) (bS b)).run aj w= .ok (aa Q) w:=fun w=>by rw[iP,s.out]
  go_wp2_with fail
  go_quiet (fail)
  go_wp2;go_roundw
  case rel=>exact⟨2,by omega,rfl,(fun _=>ah.out (by omega)),(fun _=>s.out),(fun h=>absurd h (by omega)),below_drewN ay _⟩
  case measure=>simp[intOf]
 ·have ah:=R U
  obtain⟨aE,aK⟩:=aY V ab;clear U V ab;rcases jo (dA m c) with q | q
  ·have s:=R q
   clear q;have r:∀w:ac,(binOp .eql 42 (bS m) (bS c)).run aj w= .ok (aa S) w:=fun w=>by rw[iP,s.out]
   go_wp2_with fail
   go_quiet (fail)
   go_wp2;go_ret;exact⟨by rw[aF.out.2.2.1 (ah.out (by omega)) (aE.out (by omega)) s.out];rfl,below_drewN aH _⟩
  have s:=R q;clear q;have r:∀w:ac,(binOp .eql 42 (bS m) (bS c)).run aj w= .ok (aa Q) w:=fun w=>by rw[iP,s.out]
  go_wp2_with fail
  go_quiet (fail)
  go_wp2;go_roundw
  case rel=>exact⟨3,by omega,rfl,(fun _=>ah.out (by omega)),(fun _=>aE.out (by omega)),(fun _=>s.out),below_drewN ay _⟩
  case measure=>simp[intOf]
 have bl:Hid (aw= -1):=R (aF.out.2.2.2 (U (by omega)) (V (by omega)) (ab (by omega)));clear U V ab;go_wp2;go_ret;exact⟨by rw[bl.out];rfl,aH⟩
end
end
section
set_option maxRecDepth 100000
open Go.RowKit
abbrev ah:=Int×Int×Int
abbrev bK(t:ah):Value:= aq #[B o t.1, B o t.2.1, B o t.2.2]
def dI(x y k:Int)(i:Nat):ah:=match i with
 | 0=>(x,y,(k+3) % 4)
 | 1=>(x+(if k=1 then 1 else if k=3 then -1 else 0),y+(if k=0 then -1 else if k=2 then 1 else 0),(k+2) % 4)
 | _=>(x,y,(k+1) % 4)
theorem y3(w:ac):(hg 174 (aq #[B o 0, B o (-1), B o 1, B o 0, B o 0, B o 1, B o (-1), B o 0]) (B o 0)).run aj w= .ok (aq #[B o 0, B o (-1)]) w:=by first | rfl | kernel_rfl | simp[hg,go_sem]
theorem y4(w:ac):(hg 174 (aq #[B o 0, B o (-1), B o 1, B o 0, B o 0, B o 1, B o (-1), B o 0]) (B o 1)).run aj w= .ok (aq #[B o 1, B o 0]) w:=by first | rfl | kernel_rfl | simp[hg,go_sem]
theorem y5(w:ac):(hg 174 (aq #[B o 0, B o (-1), B o 1, B o 0, B o 0, B o 1, B o (-1), B o 0]) (B o 2)).run aj w= .ok (aq #[B o 0, B o 1]) w:=by first | rfl | kernel_rfl | simp[hg,go_sem]
theorem y6(w:ac):(hg 174 (aq #[B o 0, B o (-1), B o 1, B o 0, B o 0, B o 1, B o (-1), B o 0]) (B o 3)).run aj w= .ok (aq #[B o (-1), B o 0]) w:=by first | rfl | kernel_rfl | simp[hg,go_sem]
theorem A5(x y:Int)(w:ac)(l: -1000000<=x)(r:x<=1000000)(s: -1000000<=y)(z:y<=1000000):
  bB aj 90 #[dQ x y 0, B o 0] w fun e Z=>e= .returned (aq #[B o x, B o y, B o 3])/\Below w.heap.size w Z:=by
 have G:bits .and o (0+3) 3=3:=by rw[fL];rfl
 have I:bits .and o 3 3=3:=by rw[fL];rfl
 go_in;go_wp2;exact cT (v:= aq #[B o x, B o y, B o 3]) (by simp[results,Tryz.results90,go_sem]) rfl ⟨rfl,aN (aN aX _) _⟩
theorem A6(x y:Int)(w:ac)(l: -1000000<=x)(r:x<=1000000)(s: -1000000<=y)(z:y<=1000000):
  bB aj 90 #[dQ x y 1, B o 0] w fun e Z=>e= .returned (aq #[B o x, B o y, B o 0])/\Below w.heap.size w Z:=by
 have G:bits .and o (1+3) 3=0:=by rw[fL];rfl
 have I:bits .and o 4 3=0:=by rw[fL];rfl
 go_in;go_wp2;exact cT (v:= aq #[B o x, B o y, B o 0]) (by simp[results,Tryz.results90,go_sem]) rfl ⟨rfl,aN (aN aX _) _⟩
theorem A7(x y:Int)(w:ac)(l: -1000000<=x)(r:x<=1000000)(s: -1000000<=y)(z:y<=1000000):
  bB aj 90 #[dQ x y 2, B o 0] w fun e Z=>e= .returned (aq #[B o x, B o y, B o 1])/\Below w.heap.size w Z:=by
 have G:bits .and o (2+3) 3=1:=by rw[fL];rfl
 have I:bits .and o 5 3=1:=by rw[fL];rfl
 go_in;go_wp2;exact cT (v:= aq #[B o x, B o y, B o 1]) (by simp[results,Tryz.results90,go_sem]) rfl ⟨rfl,aN (aN aX _) _⟩
theorem A8(x y:Int)(w:ac)(l: -1000000<=x)(r:x<=1000000)(s: -1000000<=y)(z:y<=1000000):
  bB aj 90 #[dQ x y 3, B o 0] w fun e Z=>e= .returned (aq #[B o x, B o y, B o 2])/\Below w.heap.size w Z:=by
 have G:bits .and o (3+3) 3=2:=by rw[fL];rfl
 have I:bits .and o 6 3=2:=by rw[fL];rfl
 go_in;go_wp2;exact cT (v:= aq #[B o x, B o y, B o 2]) (by simp[results,Tryz.results90,go_sem]) rfl ⟨rfl,aN (aN aX _) _⟩
theorem A9(x y:Int)(w:ac)(l: -1000000<=x)(r:x<=1000000)(s: -1000000<=y)(z:y<=1000000):
  bB aj 90 #[dQ x y 0, B o 1] w fun e Z=>e= .returned (aq #[B o x, B o (y+(-1)), B o 2])/\Below w.heap.size w Z:=by
 have al:=y3;have G:bits .xor o 0 2=2:=by decide
 go_in;go_wp2;exact cT (v:= aq #[B o x, B o (y+(-1)), B o 2]) (by simp[results,Tryz.results90,go_sem]) rfl ⟨rfl,aN (aN (aN aX _) _) _⟩
theorem Ba(x y:Int)(w:ac)(l: -1000000<=x)(r:x<=1000000)(s: -1000000<=y)(z:y<=1000000):
  bB aj 90 #[dQ x y 1, B o 1] w fun e Z=>e= .returned (aq #[B o (x+1), B o y, B o 3])/\Below w.heap.size w Z:=by
 have al:=y4;have G:bits .xor o 1 2=3:=by decide
 go_in;go_wp2;exact cT (v:= aq #[B o (x+1), B o y, B o 3]) (by simp[results,Tryz.results90,go_sem]) rfl ⟨rfl,aN (aN (aN aX _) _) _⟩
theorem Bb(x y:Int)(w:ac)(l: -1000000<=x)(r:x<=1000000)(s: -1000000<=y)(z:y<=1000000):
  bB aj 90 #[dQ x y 2, B o 1] w fun e Z=>e= .returned (aq #[B o x, B o (y+1), B o 0])/\Below w.heap.size w Z:=by
 have al:=y5;have G:bits .xor o 2 2=0:=by decide
 go_in;go_wp2;exact cT (v:= aq #[B o x, B o (y+1), B o 0]) (by simp[results,Tryz.results90,go_sem]) rfl ⟨rfl,aN (aN (aN aX _) _) _⟩
theorem Bc(x y:Int)(w:ac)(l: -1000000<=x)(r:x<=1000000)(s: -1000000<=y)(z:y<=1000000):
  bB aj 90 #[dQ x y 3, B o 1] w fun e Z=>e= .returned (aq #[B o (x+(-1)), B o y, B o 1])/\Below w.heap.size w Z:=by
 have al:=y6;have G:bits .xor o 3 2=1:=by decide
 go_in;go_wp2;exact cT (v:= aq #[B o (x+(-1)), B o y, B o 1]) (by simp[results,Tryz.results90,go_sem]) rfl ⟨rfl,aN (aN (aN aX _) _) _⟩
theorem Bd(x y:Int)(w:ac)(l: -1000000<=x)(r:x<=1000000)(s: -1000000<=y)(z:y<=1000000):
  bB aj 90 #[dQ x y 0, B o 2] w fun e Z=>e= .returned (aq #[B o x, B o y, B o 1])/\Below w.heap.size w Z:=by
 have G:bits .and o (0+1) 3=1:=by rw[fL];rfl
 have I:bits .and o 1 3=1:=by rw[fL];rfl
 go_in;go_wp2;exact cT (v:= aq #[B o x, B o y, B o 1]) (by simp[results,Tryz.results90,go_sem]) rfl ⟨rfl,aN (aN aX _) _⟩
theorem Be(x y:Int)(w:ac)(l: -1000000<=x)(r:x<=1000000)(s: -1000000<=y)(z:y<=1000000):
  bB aj 90 #[dQ x y 1, B o 2] w fun e Z=>e= .returned (aq #[B o x, B o y, B o 2])/\Below w.heap.size w Z:=by
 have G:bits .and o (1+1) 3=2:=by rw[fL];rfl
 have I:bits .and o 2 3=2:=by rw[fL];rfl
 go_in;go_wp2;exact cT (v:= aq #[B o x, B o y, B o 2]) (by simp[results,Tryz.results90,go_sem]) rfl ⟨rfl,aN (aN aX _) _⟩
theorem Bf(x y:Int)(w:ac)(l: -1000000<=x)(r:x<=1000000)(s: -1000000<=y)(z:y<=1000000):
  bB aj 90 #[dQ x y 2, B o 2] w fun e Z=>e= .returned (aq #[B o x, B o y, B o 3])/\Below w.heap.size w Z:=by
 have G:bits .and o (2+1) 3=3:=by rw[fL];rfl
 have I:bits .and o 3 3=3:=by rw[fL];rfl
 go_in;go_wp2;exact cT (v:= aq #[B o x, B o y, B o 3]) (by simp[results,Tryz.results90,go_sem]) rfl ⟨rfl,aN (aN aX _) _⟩
theorem Bg(x y:Int)(w:ac)(l: -1000000<=x)(r:x<=1000000)(s: -1000000<=y)(z:y<=1000000):
  bB aj 90 #[dQ x y 3, B o 2] w fun e Z=>e= .returned (aq #[B o x, B o y, B o 0])/\Below w.heap.size w Z:=by
 have G:bits .and o (3+1) 3=0:=by rw[fL];rfl
 have I:bits .and o 4 3=0:=by rw[fL];rfl
 go_in;go_wp2;exact cT (v:= aq #[B o x, B o y, B o 0]) (by simp[results,Tryz.results90,go_sem]) rfl ⟨rfl,aN (aN aX _) _⟩
theorem oi(x y k:Int)(i:Nat)(w:ac)(al:i < 3)(l: -1000000<=x)(r:x<=1000000)(s: -1000000<=y)(z:y<=1000000)(N:0<=k)(P:k<=3):
  bB aj 90 #[dQ x y k, B o i] w fun e Z=>e= .returned (bK (dI x y k i))/\Below w.heap.size w Z:=by
 have L:i=0∨i=1∨i=2:=by omega
 have M:k=0∨k=1∨k=2∨k=3:=by omega
 rcases L with rfl | rfl | rfl <;> rcases M with rfl | rfl | rfl | rfl
 ·exact(A5 x y w l r s z).mono fun e Z ⟨E,A⟩=>⟨by rw[E];simp[dI],A⟩
 ·exact(A6 x y w l r s z).mono fun e Z ⟨E,A⟩=>⟨by rw[E];simp[dI],A⟩
 ·exact(A7 x y w l r s z).mono fun e Z ⟨E,A⟩=>⟨by rw[E];simp[dI],A⟩
 ·exact(A8 x y w l r s z).mono fun e Z ⟨E,A⟩=>⟨by rw[E];simp[dI],A⟩
 ·exact(A9 x y w l r s z).mono fun e Z ⟨E,A⟩=>⟨by rw[E];simp[dI],A⟩
 ·exact(Ba x y w l r s z).mono fun e Z ⟨E,A⟩=>⟨by rw[E];simp[dI],A⟩
 ·exact(Bb x y w l r s z).mono fun e Z ⟨E,A⟩=>⟨by rw[E];simp[dI],A⟩
 ·exact(Bc x y w l r s z).mono fun e Z ⟨E,A⟩=>⟨by rw[E];simp[dI],A⟩
 ·exact(Bd x y w l r s z).mono fun e Z ⟨E,A⟩=>⟨by rw[E];simp[dI],A⟩
 ·exact(Be x y w l r s z).mono fun e Z ⟨E,A⟩=>⟨by rw[E];simp[dI],A⟩
 ·exact(Bf x y w l r s z).mono fun e Z ⟨E,A⟩=>⟨by rw[E];simp[dI],A⟩
 ·exact(Bg x y w l r s z).mono fun e Z ⟨E,A⟩=>⟨by rw[E];simp[dI],A⟩
theorem jg{w K:ac}(h:Below w.heap.size w K)(g:Nat)(J:w.heap.size<=g)(a b c:Value):Below w.heap.size w (((K.setCell ⟨g,0,F⟩ a).setCell ⟨g,1,F⟩ b).setCell ⟨g,2,F⟩ c):=((h.setCell J a).setCell J b).setCell J c
end
section
set_option maxRecDepth 100000
open Go.RowKit
def lX(a b:ah):Bool:=db [(a.1,b.1),(a.2.1,b.2.1),(a.2.2,b.2.2)]
def jH(x y k:Int)(m:aO)(d f j:Int):Bool:= !(lX (x+d,y+f,j) (x,y,k)) && gW (x+d) (y+f) j m
theorem wM(x y k:Int)(m:aO)(d0 c l:Int)(w:ac)(bm: -1000000<=x)(bn:x<=1000000)(bo: -1000000<=y)(bp:y<=1000000)(a6:0<=k)(a8:k<=3)(aC:gW x y k m=S)(d1: -1<=d0)(d2:d0<=1)(f1: -1<=c)(f2:c<=1)(bi:0<=l)(bj:l<=3)
  (aA:jH x y k m d0 c l=S) (aD:∀d f j:Int, -1<=d->d<=1-> -1<=f->f<=1->0<=j->j<=3->jH x y k m d f j=S->d=d0/\f=c/\j=l):
  bB aj 72 #[dQ x y k,bS m] w fun e Z=>e= .returned (.tuple #[aq #[B o (x+d0), B o (y+c), B o l], aa S])/\Below w.heap.size w Z:=by
 obtain⟨aH,aI,ao⟩:=cq aC aD aA;clear aC aD aA;go_in
 go_wp2_with fail
 refine aw (pa x y k m _ (by omega) (by omega) (by omega) (by omega) a6 a8) fun g I=> ?_;rw[aH.out];have L:g.heap[w.heap.size]? =D (Y #[B o x, B o y, B o k] 53 (0,0)):=aG (aW (aW (dE (Y #[B o x, B o y, B o k] 53) (by first | rfl | (simp;done) | (simp;omega))) _) _) I (by first | (simp;done) | (simp;omega));have J:g.heap[w.heap.size+1]? =D (Y #[B o (m.1), B o (m.2.1), B o (m.2.2.1), B o (m.2.2.2)] 42 (0,0)):=aG (aW (dE (Y #[B o (m.1), B o (m.2.1), B o (m.2.2.1), B o (m.2.2.2)] 42) (by first | rfl | (simp;done) | (simp;omega))) _) I (by first | (simp;done) | (simp;omega));have K:g.heap[w.heap.size+1+1]? =D (Y #[B o 0, B o 0, B o 0] 53 (0,0)):=aG (dE (Y #[B o 0, B o 0, B o 0] 53) (by first | rfl | (simp;done) | (simp;omega))) I (by first | (simp;done) | (simp;omega))
 have M:Below w.heap.size w g:=ax (aN (aN (aN aX _) _) _) I;clear I;obtain⟨aS,aT,aU⟩:=dl L;have a0:=br L;have bc:=am L;obtain⟨aJ,aK,aL,aM⟩:=dm J;have aV:=br J;have a9:=am J;obtain⟨aP,aQ,aR⟩:=dl K;have aZ:=br K;have ba:=am K;clear aS aT aU a0 bc aJ aK aL aM aV a9 aP aQ aR aZ ba;go_wp2;go_loopw [6] (fun i wr=>∃d:Int, -1<=d/\d<=d0/\i= B o d/\Below g.heap.size g wr) (fun i _=>(2-intOf i).toNat)
 case atStart=>exact⟨-1,by omega,by omega,rfl,aX⟩
 obtain⟨d,a2,be,rfl,a1⟩:=hrel;have bf:d<=1:=by omega
 go_wp2;go_loopw [7] (fun i wr=>∃f:Int, -1<=f/\f<=2/\(d=d0->f<=c)/\i= B o f/\Below g.heap.size g wr) (fun i _=>(2-intOf i).toNat)
 case atStart=>exact⟨-1,by omega,by omega,fun _=>by omega,rfl,a1⟩
 obtain⟨f,a3,bg,a4,rfl,U⟩:=hrel;have az:Below w.heap.size w wr:=M.trans (U.mono M.size);by_cases hf:f<=1
 ·go_wp2
  go_loopw [8] (fun i wr=>∃j:Int,0<=j/\j<=4/\(d=d0/\f=c->j<=l)/\i= B o j/\Below g.heap.size g wr) (fun i _=>(4-intOf i).toNat)
  case atStart=>exact⟨0,by omega,by omega,fun _=>by omega,rfl,U⟩
  obtain⟨j,ae,bh,a5,rfl,A⟩:=hrel;rename_i bl
  have s:=aG L A (am L);have G:=aG J A (am J);have E:=aG K A (am K);have V:Below w.heap.size w _:=M.trans (A.mono M.size);by_cases ad:j<=3
  ·have ai:=aB s 0
   have al:=aB s 1;have an:=aB s 2;obtain⟨av,ap,ak,ay⟩:=dm G;simp only[cP,cU,cO] at ai al an;have b6:=am s;have aE:=am G;have ag:=am E;rcases jo (lX (x+d,y+f,j) (x,y,k)) with q | q
   ·have hn:¬(d=d0/\f=c/\j=l):=by
     rintro⟨rfl,rfl,rfl⟩;have:=ao.out;simp[jH,q] at this
    have r:∀w:ac,(binOp .neq 53 (aq #[B o (x+d), B o (y+f), B o j]) (aq #[B o x, B o y, B o k])).run aj w= .ok (aa Q) w:=fun w=>by rw[jJ];have:=q;simp only[lX] at this;rw[this];rfl
    have ar:=R q;clear q s G E;go_wp2;go_roundw
    case rel=>exact⟨j+1,by omega,by omega,by omega,rfl,aN A _⟩
    case measure=>simp[intOf];omega
   have r:∀w:ac,(binOp .neq 53 (aq #[B o (x+d), B o (y+f), B o j]) (aq #[B o x, B o y, B o k])).run aj w= .ok (aa S) w:=fun w=>by rw[jJ];have:=q;simp only[lX] at this;rw[this];rfl
   rcases jo (gW (x+d) (y+f) j m) with p | p
   ·have T:=R (aI.out d f j a2 (by omega) a3 hf ae ad (by simp[jH,q,p]))
    obtain⟨ar,P⟩:=aY q p;clear q p
    go_wp2_with fail
    refine aw (pa (x+d) (y+f) j m _ (by omega) (by omega) (by omega) (by omega) ae ad) fun aF z=> ?_;rw[P.out];have af:=aG (dE (Y #[B o (x+d), B o (y+f), B o j] 53) rfl) z (by simp);have N:=aG (aW E _) z (am (aW E _));have ab:Below w.heap.size w aF:=ax (aN V _) z;clear ai al an av ap ak ay b6 aE ag s G E z V az;obtain⟨u0,u1,u2⟩:=dl af;obtain⟨r0,cN,ct⟩:=dl N;have bk:=am af;have ag:=am N;have bd:=br N;clear af N;go_wp2;refine cT (v:= .tuple #[aq #[B o (x+d), B o (y+f), B o j], aa S]) (by simp[results,Tryz.results72,go_sem,r0,cN,ct]) rfl ⟨by rw[T.out.1,T.out.2.1,T.out.2.2], ?_⟩;exact jg ab _ (by omega) _ _ _
   have hn:¬(d=d0/\f=c/\j=l):=by
    rintro⟨rfl,rfl,rfl⟩;have:=ao.out;simp[jH,q,p] at this
   obtain⟨ar,P⟩:=aY q p;clear q p
   go_wp2_with fail
   refine aw (pa (x+d) (y+f) j m _ (by omega) (by omega) (by omega) (by omega) ae ad) fun aF z=> ?_;rw[P.out];have ab:=ax (aN A _) z;clear ai al an av ap ak ay b6 aE ag s G E z V az;go_wp2;go_roundw
   case rel=>exact⟨j+1,by omega,by omega,by omega,rfl,ab⟩
   case measure=>simp[intOf];omega
  have hn:¬(d=d0/\f=c):=fun h=>by have:=a5 h;omega
  clear s G E;go_wp2;go_roundw
  case rel=>exact⟨f+1,by omega,by omega,by omega,rfl,A⟩
  case measure=>simp[intOf];omega
 have hn:¬d=d0:=fun h=>by have:=a4 h;omega
 go_wp2;go_roundw
 case rel=>exact⟨d+1,by omega,by omega,rfl,U⟩
 case measure=>simp[intOf];omega
end
section
open Go.RowKit
variable {m:aO}{d k x y:Int}{i:Nat}
def gf(a b:Int)(e:aO):aO:=(e.1+2*a,e.2.1+2*b,e.2.2.1+2*a,e.2.2.2+2*b)
theorem Co(a b c d:Int)(e:aO):gf (a+c) (b+d) e=gf a b (gf c d e):=by
 simp only[gf,jv];omega
theorem pC(x y a b c d:Int):eI (a+2*x) (b+2*y) (c+2*x) (d+2*y)=gf x y (eI a b c d):=by
 have h:fh (c+2*x) (d+2*y) (a+2*x) (b+2*y)=fh c d a b:=by
  have h1:(c+2*x < a+2*x)↔c < a:=by omega
  have ab:(c+2*x=a+2*x)↔c=a:=by omega
  have ag:(d+2*y < b+2*y)↔d < b:=by omega
  simp only[fh,h1,ab,ag]
 unfold eI;rw[h]
 split <;> rfl
theorem lW(x y k:Int)(i:Nat):ci x y k i=gf x y (ci 0 0 k i):=by
 have c1:∀j,bY x j=bY 0 j+2*x:=fun j=>by unfold bY;omega
 have c2:∀j,bZ y j=bZ 0 j+2*y:=fun j=>by unfold bZ;omega
 have bV:2*x+1=(2*0+1)+2*x:=by omega
 have bC:2*y+1=(2*0+1)+2*y:=by omega
 unfold ci;split;·rw[c1,c2,bV,bC,pC]
 ·rw[c1,c2,c1 (k+1),c2 (k+1),pC]
 ·rw[c1,c2,bV,bC,pC]
theorem q1(x y d f j:Int)(i:Nat):ci (x+d) (y+f) j i=gf x y (ci d f j i):=by
 rw[lW (x+d),Co,<-lW d]
theorem q4(x y:Int)(a b:aO):dA (gf x y a) (gf x y b)=dA a b:=by
 rw[e1,hB,hB];obtain⟨ao,a2,J,K⟩:=a;obtain⟨b1,aC,aM,L⟩:=b;simp only[gf,jv];omega
theorem yJ(x y k d f j:Int)(i:Nat):gW (x+d) (y+f) j (ci x y k i)=gW d f j (ci 0 0 k i):=by
 unfold gW;rw[q1,q1,q1,lW x y k i,q4,q4,q4]
theorem yj(x y d f j k:Int):lX (x+d,y+f,j) (x,y,k)=lX (0+d,0+f,j) (0,0,k):=by
 have h1:(x+d=x)↔(0+d=0):=by omega
 have ab:(y+f=y)↔(0+f=0):=by omega
 rw[e1];simp only[lX,db,Bool.and_true,cu,beq_iff_eq,h1,ab]
theorem yV(x y k d f j:Int)(i:Nat):jH x y k (ci x y k i) d f j=jH 0 0 k (ci 0 0 k i) d f j:=by
 unfold jH;rw[yj,yJ,Int.zero_add,Int.zero_add]
def l2:List Int:= [0,1,2,3]
def lL:List Int:= [-1,0,1]
theorem CW:(l2.all fun k=> [0,1,2].all fun i=>lL.all fun d=>lL.all fun f=>l2.all fun j=>jH 0 0 k (ci 0 0 k i) d f j==au ((d,f,j)=dI 0 0 k i))=S:=by kernel_rfl
theorem CX:(l2.all fun k=> [0,1,2].all fun i=>lL.contains (dI 0 0 k i).1 && lL.contains (dI 0 0 k i).2.1 && l2.contains (dI 0 0 k i).2.2)=S:=by kernel_rfl
theorem rx(h1:0<=k)(ab:k<=3):k ∈ l2:=by simp[l2];omega
theorem uq(h1: -1<=d)(ab:d<=1):d ∈ lL:=by simp[lL];omega
theorem ur(h:i < 3):i ∈ [0,1,2]:=by simp;omega
theorem tN{f j:Int}(g:0<=k)(l:k<=3)(al:i < 3)(d1: -1<=d)(d2:d<=1)(f1: -1<=f)(f2:f<=1)(r:0<=j)(s:j<=3)(x y:Int):
  jH x y k (ci x y k i) d f j=au ((d,f,j)=dI 0 0 k i):=by
 rw[yV];have h:=CW;simp only[dM,beq_iff_eq] at h;exact h k (rx g l) i (ur al) d (uq d1 d2) f (uq f1 f2) j (rx r s)
theorem B7(g:0<=k)(l:k<=3)(al:i < 3):(-1<=(dI 0 0 k i).1/\(dI 0 0 k i).1<=1)/\(-1<=(dI 0 0 k i).2.1/\(dI 0 0 k i).2.1<=1)/\0<=(dI 0 0 k i).2.2/\(dI 0 0 k i).2.2<=3:=by
 have h:=CX;simp only[dM] at h;have:=h k (rx g l) i (ur al);simp[lL,l2] at this;omega
theorem Bh(x y k:Int)(i:Nat):dI x y k i=(x+(dI 0 0 k i).1,y+(dI 0 0 k i).2.1,(dI 0 0 k i).2.2):=by
 unfold dI
 split <;> simp
theorem ye(a b:aO):dA a b=dA b a:=by
 rw[e1,hB,hB];exact eq_comm
theorem tK(x y k:Int)(al:i < 3):gW x y k (ci x y k i)=S:=by
 have h:∀a:aO,dA a a=S:=fun a=>(hB a a).2 rfl;have z:i=0∨i=1∨i=2:=by omega
 rcases z with rfl | rfl | rfl <;> simp[gW,h]
theorem y9(h:gW x y k m=Q):kq (ci x y k 0) (ci x y k 1) (ci x y k 2) m= -1:=by
 simp only[gW,Bool.or_eq_false_iff] at h;simp[kq,ye m,h.1.1,h.1.2,h.2]
theorem yO(h:gW x y k m=S):∃i:Nat,i < 3/\m=ci x y k i:=by
 simp only[gW,Bool.or_eq_true,hB] at h;rcases h with (h | h) | h
 ·exact⟨0,by omega,h.symm⟩
 ·exact⟨1,by omega,h.symm⟩
 ·exact⟨2,by omega,h.symm⟩
theorem qE(x y k:Int)(i:Nat)(w:ac)(al:i < 3)(A: -1000000<=x)(E:x<=1000000)(G: -1000000<=y)(I:y<=1000000)(g:0<=k)(l:k<=3):
  bB aj 72 #[dQ x y k,bS (ci x y k i)] w fun e Z=>e= .returned (.tuple #[bK (dI x y k i), aa S])/\Below w.heap.size w Z:=by
 obtain⟨⟨d1,d2⟩,⟨f1,f2⟩,r,s⟩:=B7 g l al;rw[Bh];exact wM x y k (ci x y k i) _ _ _ w A E G I g l (tK x y k al) d1 d2 f1 f2 r s (by rw[tN g l al d1 d2 f1 f2 r s];simp)
  (fun d f j ao a2 b1 aC c1 c2 h=>by
   rw[tN g l al ao a2 b1 aC c1 c2] at h;have:=of_decide_eq_true h;rw[<-this];exact⟨rfl,rfl,rfl⟩)
end
section
open Go.RowKit
variable {e:aO}{mask:List Int}{bl:List Nat}{l q:List ah}{H W i j n:Nat}{a b t u:ah}
def bk(t:ah)(i:Nat):aO:=ci t.1 t.2.1 t.2.2 i
def bE(t:ah)(i:Nat):ah:=dI t.1 t.2.1 t.2.2 i
def bi(t:ah)(e:aO):Bool:=gW t.1 t.2.1 t.2.2 e
def dN(t:ah):Prop:=0<=t.2.2/\t.2.2<=3
theorem iM(h:dN t):∃x y,t=(x,y,0)∨t=(x,y,1)∨t=(x,y,2)∨t=(x,y,3):=by
 obtain⟨x,y,k⟩:=t;have h1:=h.1;have ab:=h.2;simp only at h1 ab;have:k=0∨k=1∨k=2∨k=3:=by omega
 exact⟨x,y,by rcases this with rfl | rfl | rfl | rfl <;> simp⟩
theorem e7(h:i < 3):i=0∨i=1∨i=2:=by omega
theorem iJ(x y:Int):
  bk (x,y,0) 0=(2*x,2*y,2*x+1,2*y+1)/\bk (x,y,0) 1=(2*x,2*y,2*x+2,2*y)/\bk (x,y,0) 2=(2*x+1,2*y+1,2*x+2,2*y)/\
  bk (x,y,1) 0=(2*x+1,2*y+1,2*x+2,2*y)/\bk (x,y,1) 1=(2*x+2,2*y,2*x+2,2*y+2)/\bk (x,y,1) 2=(2*x+1,2*y+1,2*x+2,2*y+2)/\
  bk (x,y,2) 0=(2*x+1,2*y+1,2*x+2,2*y+2)/\bk (x,y,2) 1=(2*x,2*y+2,2*x+2,2*y+2)/\bk (x,y,2) 2=(2*x,2*y+2,2*x+1,2*y+1)/\
  bk (x,y,3) 0=(2*x,2*y+2,2*x+1,2*y+1)/\bk (x,y,3) 1=(2*x,2*y,2*x,2*y+2)/\bk (x,y,3) 2=(2*x,2*y,2*x+1,2*y+1):=by
 have key:∀(k:Int) (i:Nat) (a b c d:Int),ci 0 0 k i=(a,b,c,d)->bk (x,y,k) i=(2*x+a,2*y+b,2*x+c,2*y+d):=by
  intro k i a b c d h;unfold bk;rw[lW,h];simp only[gf,jv];omega
 refine⟨?_, ?_, ?_, ?_, ?_, ?_, ?_, ?_, ?_, ?_, ?_, ?_⟩;·rw[key 0 0 0 0 1 1 (by decide)];simp
 ·rw[key 0 1 0 0 2 0 (by decide)];simp
 ·rw[key 0 2 1 1 2 0 (by decide)];simp
 ·rw[key 1 0 1 1 2 0 (by decide)];simp
 ·rw[key 1 1 2 0 2 2 (by decide)];simp
 ·rw[key 1 2 1 1 2 2 (by decide)]
 ·rw[key 2 0 1 1 2 2 (by decide)]
 ·rw[key 2 1 0 2 2 2 (by decide)];simp
 ·rw[key 2 2 0 2 1 1 (by decide)];simp
 ·rw[key 3 0 0 2 1 1 (by decide)];simp
 ·rw[key 3 1 0 0 0 2 (by decide)];simp
 ·rw[key 3 2 0 0 1 1 (by decide)];simp
theorem iO(x y:Int):
  bE (x,y,0) 0=(x,y,3)/\bE (x,y,0) 1=(x,y-1,2)/\bE (x,y,0) 2=(x,y,1)/\
  bE (x,y,1) 0=(x,y,0)/\bE (x,y,1) 1=(x+1,y,3)/\bE (x,y,1) 2=(x,y,2)/\
  bE (x,y,2) 0=(x,y,1)/\bE (x,y,2) 1=(x,y+1,0)/\bE (x,y,2) 2=(x,y,3)/\
  bE (x,y,3) 0=(x,y,2)/\bE (x,y,3) 1=(x-1,y,1)/\bE (x,y,3) 2=(x,y,0):=by
 refine⟨?_, ?_, ?_, ?_, ?_, ?_, ?_, ?_, ?_, ?_, ?_, ?_⟩ <;> simp[bE,dI] <;> omega
theorem lM(x y:Int):bk (x,y,0) 0=(2*x,2*y,2*x+1,2*y+1):=(iJ x y).1
theorem m4(x y:Int):bE (x,y,0) 0=(x,y,3):=(iO x y).1
theorem lN(x y:Int):bk (x,y,0) 1=(2*x,2*y,2*x+2,2*y):=(iJ x y).2.1
theorem m5(x y:Int):bE (x,y,0) 1=(x,y-1,2):=(iO x y).2.1
theorem lO(x y:Int):bk (x,y,0) 2=(2*x+1,2*y+1,2*x+2,2*y):=(iJ x y).2.2.1
theorem m6(x y:Int):bE (x,y,0) 2=(x,y,1):=(iO x y).2.2.1
theorem iF(x y:Int):bk (x,y,1) 0=(2*x+1,2*y+1,2*x+2,2*y):=(iJ x y).2.2.2.1
theorem n10(x y:Int):bE (x,y,1) 0=(x,y,0):=(iO x y).2.2.2.1
theorem iG(x y:Int):bk (x,y,1) 1=(2*x+2,2*y,2*x+2,2*y+2):=(iJ x y).2.2.2.2.1
theorem n11(x y:Int):bE (x,y,1) 1=(x+1,y,3):=(iO x y).2.2.2.2.1
theorem iH(x y:Int):bk (x,y,1) 2=(2*x+1,2*y+1,2*x+2,2*y+2):=(iJ x y).2.2.2.2.2.1
theorem n12(x y:Int):bE (x,y,1) 2=(x,y,2):=(iO x y).2.2.2.2.2.1
theorem lP(x y:Int):bk (x,y,2) 0=(2*x+1,2*y+1,2*x+2,2*y+2):=(iJ x y).2.2.2.2.2.2.1
theorem n20(x y:Int):bE (x,y,2) 0=(x,y,1):=(iO x y).2.2.2.2.2.2.1
theorem lQ(x y:Int):bk (x,y,2) 1=(2*x,2*y+2,2*x+2,2*y+2):=(iJ x y).2.2.2.2.2.2.2.1
theorem n21(x y:Int):bE (x,y,2) 1=(x,y+1,0):=(iO x y).2.2.2.2.2.2.2.1
theorem lR(x y:Int):bk (x,y,2) 2=(2*x,2*y+2,2*x+1,2*y+1):=(iJ x y).2.2.2.2.2.2.2.2.1
theorem n22(x y:Int):bE (x,y,2) 2=(x,y,3):=(iO x y).2.2.2.2.2.2.2.2.1
theorem lS(x y:Int):bk (x,y,3) 0=(2*x,2*y+2,2*x+1,2*y+1):=(iJ x y).2.2.2.2.2.2.2.2.2.1
theorem n30(x y:Int):bE (x,y,3) 0=(x,y,2):=(iO x y).2.2.2.2.2.2.2.2.2.1
theorem lT(x y:Int):bk (x,y,3) 1=(2*x,2*y,2*x,2*y+2):=(iJ x y).2.2.2.2.2.2.2.2.2.2.1
theorem n31(x y:Int):bE (x,y,3) 1=(x-1,y,1):=(iO x y).2.2.2.2.2.2.2.2.2.2.1
theorem lU(x y:Int):bk (x,y,3) 2=(2*x,2*y,2*x+1,2*y+1):=(iJ x y).2.2.2.2.2.2.2.2.2.2.2
theorem n32(x y:Int):bE (x,y,3) 2=(x,y,0):=(iO x y).2.2.2.2.2.2.2.2.2.2.2
theorem uF(h:dN t)(al:i < 3):dN (bE t i):=by
 obtain⟨x,y,ht⟩:=iM h;rcases e7 al with rfl | rfl | rfl <;> rcases ht with rfl | rfl | rfl | rfl <;> simp[dN,m4,m5,m6,n10,n11,n12,n20,n21,n22,n30,n31,n32]
def gx(i:Nat):Nat:=if i=0 then 2 else if i=1 then 1 else 0
theorem ki(i:Nat):gx i < 3:=by unfold gx;split <;> (try split) <;> omega
theorem mO(h:dN t)(al:i < 3):bE (bE t i) (gx i)=t/\bk (bE t i) (gx i)=bk t i:=by
 obtain⟨x,y,ht⟩:=iM h;have b0:gx 0=2:=rfl;have b1:gx 1=1:=rfl;have aC:gx 2=0:=rfl;rcases e7 al with rfl | rfl | rfl <;> rcases ht with rfl | rfl | rfl | rfl <;> simp[b0,b1,aC,m4,m5,m6,n10,n11,n12,n20,n21,n22,n30,n31,n32,lM,lN,lO,iF,iG,iH,lP,lQ,lR,lS,lT,lU] <;> omega
theorem uG(h:dN t)(al:i < 3):bE t i≠t:=by
 obtain⟨x,y,ht⟩:=iM h;rcases e7 al with rfl | rfl | rfl <;> rcases ht with rfl | rfl | rfl | rfl <;> simp[m4,m5,m6,n10,n11,n12,n20,n21,n22,n30,n31,n32]
theorem o4(h:dN t)(al:i < 3)(r:j < 3)(J:bk t i=bk t j):i=j:=by
 obtain⟨x,y,ht⟩:=iM h;rcases e7 al with rfl | rfl | rfl <;> rcases e7 r with rfl | rfl | rfl <;> rcases ht with rfl | rfl | rfl | rfl <;> simp[lM,lN,lO,iF,iG,iH,lP,lQ,lR,lS,lT,lU] at J |- <;> omega
theorem qZ(ht:dN t)(G:dN u)(al:i < 3)(r:j < 3)(J:bk u j=bk t i):u=t∨u=bE t i:=by
 obtain⟨x,y,h1⟩:=iM ht;obtain⟨z,v,ab⟩:=iM G;rcases e7 al with rfl | rfl | rfl <;> rcases h1 with rfl | rfl | rfl | rfl <;> rcases e7 r with rfl | rfl | rfl <;> rcases ab with rfl | rfl | rfl | rfl <;> simp[lM,lN,lO,iF,iG,iH,lP,lQ,lR,lS,lT,lU,m4,m5,m6,n10,n11,n12,n20,n21,n22,n30,n31,n32] at J |- <;> omega
theorem ob:bi t e=S↔∃i,i < 3/\bk t i=e:=by
 constructor
 ·intro h
  obtain⟨i,al,e⟩:=yO h;exact⟨i,al,e.symm⟩
 rintro⟨i,al,rfl⟩;exact tK _ _ _ al
theorem yF(ht:dN t)(G:dN u)(al:i < 3):bi u (bk t i)=S↔u=t∨u=bE t i:=by
 rw[ob];constructor
 ·rintro⟨j,r,e⟩
  exact qZ ht G al r e
 rintro(rfl | rfl);·exact⟨i,al,rfl⟩
 ·exact⟨gx i,ki i,(mO ht al).2⟩
def gC(l:List ah)(e:aO):Bool:=l.any fun t=>(List.range 3).any fun i=>au (bk t i=e) && au (bE t i ∈ l)
theorem pd:gC l e=S↔∃t ∈ l,∃i,i < 3/\bk t i=e/\bE t i ∈ l:=by
 simp[gC,and_assoc]
theorem rj(av:∀t ∈ l,dN t)(ht:dN t)(al:i < 3):gC l (bk t i)=(au (t ∈ l) && au (bE t i ∈ l)):=by
 rw[e1,pd,cu,decide_eq_true_eq,decide_eq_true_eq];constructor
 ·rintro⟨u,G,j,r,e,hn⟩
  rcases qZ ht (av u G) al r e with rfl | rfl
  ·have:=o4 ht r al e
   subst this;exact⟨G,hn⟩
  refine⟨?_,G⟩;have h1:=(mO ht al);have:=o4 (uF ht al) r (ki i) (e.trans h1.2.symm);subst this;rw[h1.1] at hn;exact hn
 rintro⟨h1,ab⟩;exact⟨t,h1,i,al,rfl,ab⟩
theorem xV(av:∀t ∈ l,dN t)(hnd:l.Nodup)(e:aO):(l.countP (fun t=>bi t e)=2)↔gC l e=S:=by
 by_cases h:∃t ∈ l,bi t e=S
 ·obtain⟨t,ht,J⟩:=h
  obtain⟨i,al,rfl⟩:=ob.1 J;rw[rj av (av t ht) al];have hf:l.filter (fun u=>bi u (bk t i))=l.filter (fun u=>au (u=t) || au (u=bE t i)):=by
   apply List.filter_congr
   intro u G;rw[e1,yF (av t ht) (av u G) al];simp
  have ae:=uG (av t ht) al;have aE:∀(l:List ah),l.Nodup->t ∈ l->(l.filter (fun u=>au (u=t) || au (u=bE t i))).length=1+if bE t i ∈ l then 1 else 0:=by
   intro l;have one:∀(l:List ah) (a:ah),l.Nodup->(l.filter fun u=>au (u=a)).length=if a ∈ l then 1 else 0:=by
    intro l a
    induction l with
    | nil=>simp
    | cons b l E=>
     intro hn;rw[sp] at hn;have:=E hn.2;by_cases T:b=a
     ·subst T
      rw[if_neg hn.1] at this;simp[this]
     have:¬a=b:=fun e=>T e.symm;simp[T,this,E hn.2]
   have split:∀(l:List ah),(l.filter fun u=>au (u=t) || au (u=bE t i)).length=(l.filter fun u=>au (u=t)).length+(l.filter fun u=>au (u=bE t i)).length:=by
    intro l
    induction l with
    | nil=>rfl
    | cons b l E=>
     by_cases h1:b=t
     ·have ab:¬b=bE t i:=fun e=>ae (by rw[<-e,h1])
      simp[h1,Ne.symm ae];omega
     by_cases ab:b=bE t i
     ·simp[ab,ae]
      omega
     simp[h1,ab];omega
   intro hn ht;rw[split,one l t hn,one l (bE t i) hn,if_pos ht]
  rw[List.countP_eq_length_filter,hf,aE l hnd ht];by_cases hn:bE t i ∈ l
  ·simp[hn,ht]
  ·simp[hn]
 have h0:l.countP (fun t=>bi t e)=0:=by
  rw[List.countP_eq_zero];intro t ht J;exact h ⟨t,ht,J⟩
 rw[h0];constructor
 ·intro h1
  omega
 intro h1;obtain⟨t,ht,i,al,e,_⟩:=pd.1 h1;exact absurd ⟨t,ht,ob.2 ⟨i,al,e⟩⟩ h
def i1(m:Int)(k:Nat):Bool:=au (m / 2 ^ k % 2=1)
def iR(W i k:Nat):ah:=(((i % W:Nat):Int),((i / W:Nat):Int),(k:Int))
def fg(W:Nat)(mask:List Int)(i k:Nat):List ah:=((List.range k).filter fun k=>i1 (mask.getD i 0) k).map fun k=>iR W i k
def eb(W:Nat)(mask:List Int)(i:Nat):List ah:=(List.range i).flatMap fun i=>fg W mask i 4
def bG(W:Nat)(mask:List Int):List ah:=eb W mask mask.length
theorem sO(W:Nat)(mask:List Int)(i k:Nat):fg W mask i (k+1)=fg W mask i k++if i1 (mask.getD i 0) k=S then [iR W i k] else []:=by
 unfold fg;rw[List.range_succ,List.filter_append,List.map_append]
 congr 1
 by_cases h:i1 (mask.getD i 0) k=S
 ·rw[if_pos h,List.filter_cons_of_pos (by exact h)]
  rfl
 rw[if_neg h,List.filter_cons_of_neg (by exact h)];rfl
theorem pG(W:Nat)(mask:List Int)(i:Nat):eb W mask (i+1)=eb W mask i++fg W mask i 4:=by
 simp[eb,List.range_succ]
theorem oU:t ∈ fg W mask i n↔∃k,k < n/\i1 (mask.getD i 0) k=S/\t=iR W i k:=by
 unfold fg;simp only[List.mem_map,List.mem_filter,List.mem_range];constructor
 ·rintro⟨k,⟨h1,ab⟩,rfl⟩
  exact⟨k,h1,ab,rfl⟩
 rintro⟨k,h1,ab,rfl⟩;exact⟨k,⟨h1,ab⟩,rfl⟩
theorem va:t ∈ eb W mask n↔∃i,i < n/\∃k,k < 4/\i1 (mask.getD i 0) k=S/\t=iR W i k:=by
 unfold eb;simp only[List.mem_flatMap,List.mem_range,oU]
def c3(a b:ah):Prop:=a.2.1 < b.2.1∨a.2.1=b.2.1/\(a.1 < b.1∨a.1=b.1/\a.2.2 < b.2.2)
theorem gg(a:ah):¬c3 a a:=by unfold c3;omega
theorem nw{c:ah}(h:c3 a b)(g:c3 b c):c3 a c:=by unfold c3 at*;omega
theorem r1(a b:ah):c3 a b∨a=b∨c3 b a:=by
 obtain⟨ao,a2,V⟩:=a;obtain⟨b1,aC,aM⟩:=b;unfold c3;simp only[jv];omega
theorem vP{k m:Nat}(hW:0 < W)(h:i < j):c3 (iR W i k) (iR W j m):=by
 unfold c3 iR;have h1:=Nat.div_add_mod i W;have ab:=Nat.div_add_mod j W;have ag:=Nat.mod_lt i hW;have az:=Nat.mod_lt j hW;by_cases R:i / W < j / W
 ·left
  simp only;omega
 right
 have aL:i / W<=j / W:=Nat.div_le_div_right (by omega);have J:i / W=j / W:=by omega
 rw[J] at h1;refine⟨by simp only;omega, .inl ?_⟩;simp only;omega
theorem pF(hW:0 < W)(mask:List Int)(n:Nat):(eb W mask n).Pairwise c3:=by
 unfold eb;rw[List.pairwise_flatMap];constructor
 ·intro i _
  unfold fg;rw[List.pairwise_map];refine(wB.filter _).imp ?_;intro a b h;refine .inr ⟨rfl, .inr ⟨rfl, ?_⟩⟩;show((a:Nat):Int) < ((b:Nat):Int)
  omega
 refine wB.imp ?_;intro i j h a I b T;obtain⟨k,_,_,rfl⟩:=oU.1 I;obtain⟨m,_,_,rfl⟩:=oU.1 T;exact vP hW h
theorem nt(h:l.Pairwise c3):l.Nodup:=h.imp fun {a b} h (e:a=b)=>gg b (by rw[e] at h;exact h)
theorem lg(hW:0 < W)(L:mask.length=W*H)(h:t ∈ bG W mask):0<=t.1/\t.1 < W/\0<=t.2.1/\t.2.1 < H/\dN t:=by
 obtain⟨i,al,k,ad,_,rfl⟩:=va.1 h;have ag:=Nat.mod_lt i hW;have az:i / W < H:=by
  rw[Nat.div_lt_iff_lt_mul hW,Nat.mul_comm];omega
 have ao:∀n:Nat,(0:Int)<=(n:Int):=fun n=>by omega
 have a2:∀n m:Nat,n < m->(n:Int) < (m:Int):=fun n m h=>by omega
 refine⟨ao _,a2 _ _ ag,ao _,a2 _ _ az,ao _, ?_⟩;show(k:Int)<=3
 omega
theorem ny(W:Nat)(mask:List Int):(bG W mask).length<=4*mask.length:=by
 unfold bG;have:∀n,(eb W mask n).length<=4*n:=by
  intro n
  induction n with
  | zero=>simp[eb]
  | succ n E=>
   rw[pG,List.length_append];have:(fg W mask n 4).length<=4:=by
    unfold fg;rw[List.length_map];exact Nat.le_trans (List.length_filter_le _ _) (by simp)
   omega
 exact this _
def pV(a:Int):List Int:= [a-1,a,a+1]
def jL(e:aO):List ah:=(pV (e.1.tdiv 2)).flatMap fun x=>(pV (e.2.1.tdiv 2)).flatMap fun y=> [0,1,2,3].map fun k=>(x,y,k)
def jK(W H:Nat)(e:aO):Bool:= !(au (e.1 < 0) || au (e.2.1 < -1) || au (2*(W:Int) < e.1) || au (2*(H:Int) < e.2.1))
theorem uH:t ∈ jL e↔(e.1.tdiv 2-1<=t.1/\t.1<=e.1.tdiv 2+1)/\(e.2.1.tdiv 2-1<=t.2.1/\t.2.1<=e.2.1.tdiv 2+1)/\dN t:=by
 obtain⟨x,y,k⟩:=t;unfold jL pV dN;simp only[List.mem_flatMap,List.mem_map,dC,List.not_mem_nil,or_false,jv];constructor
 ·rintro⟨a,I,b,T,c,hc,rfl,rfl,rfl⟩
  omega
 rintro⟨h1,ab,ag⟩;exact⟨x,by omega,y,by omega,k,by omega,rfl,rfl,rfl⟩
theorem x8(h:dN t)(al:i < 3):2*t.1<=(bk t i).1/\(bk t i).1<=2*t.1+2/\2*t.2.1<=(bk t i).2.1/\(bk t i).2.1<=2*t.2.1+2:=by
 obtain⟨x,y,ht⟩:=iM h;rcases e7 al with rfl | rfl | rfl <;> rcases ht with rfl | rfl | rfl | rfl <;> simp[lM,lN,lO,iF,iG,iH,lP,lQ,lR,lS,lT,lU] <;> omega
theorem AT(ad:dN t)(A:0<=t.1)(aN:t.1 < W)(U:0<=t.2.1)(aP:t.2.1 < H)(al:i < 3):jK W H (bk t i)=S/\t ∈ jL (bk t i):=by
 obtain⟨h1,ab,ag,az⟩:=x8 ad al;constructor
 ·unfold jK
  simp;omega
 rw[uH];rw[nH (by omega),nH (by omega)];exact⟨by omega,by omega,ad⟩
theorem tP(av:∀t ∈ l,0<=t.1/\t.1 < W/\0<=t.2.1/\t.2.1 < H/\dN t)(h:jK W H e=Q∨∀t ∈ jL e,bi t e=Q):gC l e=Q:=by
 rw[Bool.eq_false_iff];intro ay;obtain⟨t,ht,i,al,rfl,_⟩:=pd.1 ay;obtain⟨a,b,c,d,k⟩:=av t ht;obtain⟨aJ,aK⟩:=AT k a b c d al (W:=W) (H:=H);rcases h with h | h
 ·rw[aJ] at h
  cases h
 have:=h t aK;rw[ob.2 ⟨i,al,rfl⟩] at this;cases this
inductive e5 (l:List ah) (c:aO->Bool) (a:ah):ah->Prop
 | refl:e5 l c a a
 | step {t:ah} {i:Nat}:e5 l c a t->i < 3->c (bk t i)=S->bE t i ∈ l->e5 l c a (bE t i)
theorem e5.mem{c:aO->Bool}(I:a ∈ l)(h:e5 l c a t):t ∈ l:=by
 cases h with
 | refl=>exact I
 | step _ _ _ h=>exact h
theorem e5.trans{c:aO->Bool}(h1:e5 l c a b)(ab:e5 l c b t):e5 l c a t:=by
 induction ab with
 | refl=>exact h1
 | step _ al hc L E=>exact .step E al hc L
theorem e5.symm{c:aO->Bool}(av:∀t ∈ l,dN t)(I:a ∈ l)(h:e5 l c a t):e5 l c t a:=by
 induction h with
 | refl=>exact .refl
 | @step t i K al hc L E=>
  have ht:=K.mem I;have M:=mO (av t ht) al;have h1:e5 l c (bE t i) t:=by
   have:=e5.step (l:=l) (c:=c) (a:=bE t i) (t:=bE t i) (i:=gx i) .refl (ki i) (by rw[M.2];exact hc) (by rw[M.1];exact ht);rw[M.1] at this;exact this
  exact h1.trans E
structure kM(l:List ah)(c:aO->Bool)(a:ah)(q:List ah):Prop where
 eR:q.Nodup
 fst:a ∈ q
 jT:∀t ∈ q,e5 l c a t
 cl:∀t ∈ q,∀i,i < 3->c (bk t i)=S->bE t i ∈ l->bE t i ∈ q
theorem kM.iff{c:aO->Bool}(h:kM l c a q)(t:ah):t ∈ q↔e5 l c a t:=by
 constructor
 ·exact h.jT t
 intro K
 induction K with
 | refl=>exact h.fst
 | step K al hc L E=>exact h.cl _ E _ al hc L
structure kc(l:List ah)(c:aO->Bool)(bl:List Nat):Prop where
 len:bl.length=l.length
 le:∀i,i < l.length->bl.getD i 0<=i
 jT:∀i t,l[i]? =D t->∃u,l[bl.getD i 0]? =D u/\e5 l c t u
 cl:∀i j t k,l[i]? =D t->k < 3->c (bk t k)=S->l[j]? =D (bE t k)->bl.getD j 0=bl.getD i 0
theorem kc.same{c:aO->Bool}(h:kc l c bl)(hnd:l.Nodup)(K:e5 l c a t):∀i j,l[i]? =D a->l[j]? =D t->bl.getD i 0=bl.getD j 0:=by
 have ax:∀(i j:Nat) (x:ah),l[i]? =D x->l[j]? =D x->i=j:=by
  intro i j x al r;exact(List.getElem?_inj (List.getElem?_eq_some_iff.1 al).1 hnd).1 (al.trans r.symm)
 induction K with
 | refl=>
  intro i j al r;rw[ax i j a al r]
 | @step t k K ad hc L E=>
  intro i j al r;have ht:t=a∨t ∈ l:=by
   cases K with
   | refl=>exact .inl rfl
   | step _ _ _ h=>exact .inr h
  have aF:t ∈ l:=by
   rcases ht with rfl | ht
   ·exact cH al
   ·exact ht
  obtain⟨m,aB,aD⟩:=j4 aF;have an:l[m]? =D t:=by rw[bb aB,aD]
  rw[E i m al an,h.cl m j t k an ad hc r]
theorem kc.iff{c:aO->Bool}(h:kc l c bl)(hnd:l.Nodup)(av:∀t ∈ l,dN t)(al:l[i]? =D a)(r:l[j]? =D t):bl.getD i 0=bl.getD j 0↔e5 l c a t:=by
 constructor
 ·intro e
  obtain⟨u,G,h1⟩:=h.jT i a al;obtain⟨v,aG,ab⟩:=h.jT j t r;rw[e,aG] at G;cases G
  exact h1.trans (ab.symm av (cH r))
 intro K;exact h.same hnd K i j al r
theorem ik{N:Type}[DecidableEq N]:∀{q l:List N},q.Nodup->(∀x ∈ q,x ∈ l)->q.length<=l.length:=by
 intro q
 induction q with
 | nil=>intros;simp
 | cons a q E=>
  intro l s M;rw[sp] at s;have:=E (l:=l.erase a) s.2 (fun x A=>(List.mem_erase_of_ne (by rintro rfl;exact s.1 A)).2 (M x (iV _ A)));have ab:=List.length_erase_of_mem (M a (hi));have ag:=qm (M a (hi));simp;omega
theorem vH{N:Type}[DecidableEq N]{q l:List N}(s:q.Nodup)(M:∀x ∈ q,x ∈ l)(av:l.Nodup)(J:q.length=l.length):∀x ∈ l,x ∈ q:=by
 intro x A;apply Classical.byContradiction
 intro hn;have:=ik (q:=x::q) (l:=l) (sp.2 ⟨hn,s⟩) (fun y U=>by
  rcases dC.1 U with rfl | U
  ·exact A
  ·exact M y U)
 simp at this;omega
theorem zr(hnd:l.Nodup)(av:∀t ∈ l,dN t)(I:l[0]? =D a)(Z:kc l (fun _=>S) bl)(s:kM l (fun _=>S) a q):
  (bl.all fun z=>z==0)=au (q.length=l.length):=by
 have ak:=cH I;have ar:∀x ∈ q,x ∈ l:=fun x A=>(s.jT x A).mem ak;have ap:0 < l.length:=qm ak;rw[e1,dM,decide_eq_true_eq];constructor
 ·intro h
  have h1:=ik s.eR ar;have ab:l.length<=q.length:=by
   refine ik hnd fun x A=> ?_;obtain⟨j,r,e⟩:=j4 A;have aA:l[j]? =D x:=by rw[bb r,e]
   rw[s.iff];rw[<-Z.iff hnd av I aA];have z:∀j,j < l.length->bl.getD j 0=0:=by
    intro j r;have aw:j < bl.length:=by rw[Z.len];exact r
    rw[cf,bb aw];simpa using h _ (List.getElem_mem aw)
   rw[z 0 ap,z j r]
  omega
 intro h z aI;obtain⟨j,r,e⟩:=j4 aI;have am:j < l.length:=by rw[<-Z.len];exact r
 have L:=vH s.eR ar hnd h _ (List.getElem_mem am);rw[s.iff,<-Z.iff hnd av I (bb am)] at L;have h0:=Z.le 0 ap;have aH:bl.getD j 0=z:=by rw[cf,bb r,e];rfl
 rw[aH] at L;simp;omega
def cG(a b:Int):Int:=if a < b then -1 else if b < a then 1 else 0
def eZ(a b:Int):Int:=if a=0 then b else a
def gy(a b c d:Int):Int:=eZ (cG a c) (cG b d)
def f9(a b:aO):Int:=eZ (gy a.1 a.2.1 b.1 b.2.1) (gy a.2.2.1 a.2.2.2 b.2.2.1 b.2.2.2)
def ga(a b:ah):Int:=eZ (cG a.2.1 b.2.1) (eZ (cG a.1 b.1) (cG a.2.2 b.2.2))
def fD(a b:aO):Bool:=fh a.1 a.2.1 b.1 b.2.1 || (au (a.1=b.1/\a.2.1=b.2.1) && fh a.2.2.1 a.2.2.2 b.2.2.1 b.2.2.2)
theorem xE(a b:aO):au (0<=f9 a b)= !fD a b:=by
 obtain⟨ao,a2,V,af⟩:=a;obtain⟨b1,aC,aM,ai⟩:=b;have e:fD (ao,a2,V,af) (b1,aC,aM,ai)=S↔(ao < b1∨ao=b1/\a2 < aC)∨((ao=b1/\a2=aC)/\(V < aM∨V=aM/\af < ai)):=by
  simp[fD,fh]
 rw[e1,decide_eq_true_eq,Bool.not_eq_true',<-Bool.not_eq_true,e];unfold f9 gy eZ cG;simp only
 repeat' split
 all_goals omega
theorem hZ(a b:ah):ga a b < 0↔c3 a b:=by
 obtain⟨ao,a2,V⟩:=a;obtain⟨b1,aC,aM⟩:=b;unfold ga c3 eZ cG;simp only
 repeat' split
 all_goals omega
abbrev bw:=aO×Int
def iB(W H:Int)(mask:List Int):Bool:=au (1<=W/\W<=8) && au (1<=H/\H<=8) && au ((mask.length:Int)=W*H) && mask.all fun m=>au (0<=m/\m<=15)
def et(l:List ah)(P:Option bw)(c:bw):Bool:=(match P with | none=>S | some p=>fD p.1 c.1) && au (c.2=1∨c.2=2) && gC l c.1
def eQ(l:List ah):Option bw->List bw->Bool
 | _, []=>S
 | P,c::cs=>et l P c && eQ l (D c) cs
theorem o3:∀{cs:List bw} {P:Option bw},eQ l P cs=S↔∀i c,cs[i]? =D c->et l (if i=0 then P else cs[i-1]?) c=S
 | [],P=>by simp[eQ]
 | c::cs,P=>by
  rw[eQ,cu,o3];constructor
  ·rintro⟨h1,ab⟩ i d R
   cases i with
   | zero=>
    simp at R;subst R;exact h1
   | succ i=>
    rw[cO] at R;have:=ab i d R;rw[if_neg (by omega),Nat.add_sub_cancel]
    cases i with
    | zero=>simpa using this
    | succ i=>simpa using this
  intro h;refine⟨by simpa using h 0 c rfl,fun i d R=> ?_⟩;have:=h (i+1) d (by simpa using R);rw[if_neg (by omega),Nat.add_sub_cancel] at this
  cases i with
  | zero=>simpa using this
  | succ i=>simpa using this
theorem o6{N:Type}{lt:N->N->Prop}(al:∀a,¬lt a a)(ht:∀a b c,lt a b->lt b c->lt a c):∀{a b:List N},a.Pairwise lt->b.Pairwise lt->(∀x,x ∈ a↔x ∈ b)->a=b
 | [], [],_,_,_=>rfl
 | [],y::b,_,_,h=>by
  have:=(h y).2 (hi);cases this
 | x::a, [],_,_,h=>by
  have:=(h x).1 (hi);cases this
 | x::a,y::b,h1,ab,h=>by
  rw[List.pairwise_cons] at h1 ab;have e:x=y:=by
   rcases dC.1 ((h x).1 (hi)) with e | A
   ·exact e
   rcases dC.1 ((h y).2 (hi)) with e | U
   ·exact e.symm
   ·exact absurd (ht _ _ _ (h1.1 y U) (ab.1 x A)) (al _)
  subst e
  congr 1
  refine o6 al ht h1.2 ab.2 fun z=> ?_;constructor
  ·intro aI
   rcases dC.1 ((h z).1 (iV _ aI)) with rfl | hz'
   ·exact absurd (h1.1 _ aI) (al _)
   ·exact hz'
  intro aI;rcases dC.1 ((h z).2 (iV _ aI)) with rfl | hz'
  ·exact absurd (ab.1 _ aI) (al _)
  ·exact hz'
open Classical in
noncomputable def jD(l:List ah)(c:aO->Bool)(t:ah):List ah:=l.filter fun u=>au (e5 l c t u)
theorem mM{c:aO->Bool}(ht:t ∈ l):u ∈ jD l c t↔e5 l c t u:=by
 unfold jD;rw[List.mem_filter];simp only[decide_eq_true_eq];exact⟨fun h=>h.2,fun h=>⟨h.mem ht,h⟩⟩
theorem xO{c:aO->Bool}(av:l.Pairwise c3)(ht:t ∈ l)(s:kM l c t q):(jD l c t).length=q.length:=by
 have hnd:(jD l c t).Nodup:=nt (av.filter _);exact Nat.le_antisymm (ik hnd fun x A=>(s.iff x).2 ((mM ht).1 A)) (ik s.eR fun x A=>(mM ht).2 ((s.iff x).1 A))
end
end Go.Proofs.YteaeipgfjmnecaaGreatDoor

/- Lemmas; each says its own conditions. -/
import Derived.Test.YteaeipgfjmnecaaGreatDoorK03
import Derived.WideKeyEntry
open Array renaming replicate->eA
open Bool renaming and_eq_true->cu,eq_false_iff->p8,eq_iff_iff->e1,false->Q,not_eq_true'->lj,true->S
open Decidable renaming decide->au
open Go renaming Addr->cF,Value->ae,World->ac,getD_set_true->ix,heap_alloc_new->aQ,undef->U,wpOp_step->cB
open Go.IntKind renaming i64->b7
open Go.IntWalk renaming i64_in->ca
open Go.World renaming block_lt_of_cell?->iS,ownsRow_nil->gl,size_alloc->em
open Go.World.ownsRow renaming kept->qh
open Int renaming eq_ofNat_of_zero_le->lo
open Go.IntKind renaming i64->o
open List renaming all_eq_true->dM,append_assoc->nI,ext_getElem?->sn,getD_eq_getElem?_getD->cf,getElem?_append_left->hS,getElem?_cons_succ->cO,getElem?_cons_zero->cU,getElem?_eq_getElem->bb,getElem?_eq_some_iff->bM,getElem?_take->iT,getElem?_toArray->cP,length_append->gL,mem_of_getElem?->cH,range->c4,replicate->f0,take_add_one->hT,take_of_length_le->hU
open Nat renaming beq->f4,ble->nL,le_of_ble_eq_true->qu,le_trans->ec,lt_of_lt_of_le->ju,mul_comm->my,mul_le_mul->oJ
open Go.Obj renaming cells->Y
open Option renaming none->F,some->D
open Option.some renaming inj->cn
open Go.Proofs.Tryz renaming prog->aj
open Go.Value renaming agg->aq,bool->aa,int->B,pointer->ad,slice->O
namespace Go.Proofs.YteaeipgfjmnecaaGreatDoor
set_option linter.unusedSimpArgs false
set_option linter.unusedVariables false
set_option maxHeartbeats 12800000
section
set_option maxRecDepth 100000
open Go.RowKit Go.Maps
variable {H W:Int}{mask:List Int}
theorem lG(h:W < 1∨8 < W∨H < 1∨8 < H∨(mask.length:Int)≠W*H):iB W H mask=Q:=by
 unfold iB;rw[p8];intro hc;simp at hc;omega
theorem qK(h1:1<=W/\W<=8)(ab:1<=H/\H<=8)(ag:(mask.length:Int)=W*H):iB W H mask=mask.all fun m=>au (0<=m/\m<=15):=by
 unfold iB;rw[decide_eq_true h1,decide_eq_true ab,decide_eq_true ag];rfl
theorem zX(A:Option cF)(n c:Nat)(bD:ae)(W H:Int)(mask:List Int)(w:ac)(h:Rd w 1 A n (bF mask))(hn:n<=140737488351232)
  (az:W < 1∨8 < W∨H < 1∨8 < H∨(mask.length:Int)≠W*H):
  Calls aj 86 #[aq #[B o W, B o H, O A n c,bD]] w fun e Z=>e= .returned (.tuple #[ad F, aa Q])/\Below w.heap.size w Z:=by
 have av:=h.k5;rw[av] at az;have aT:=aQ w (Y #[B o W, B o H, O A n c,bD] 25);have ax:=aV w (Y #[B o W, B o H, O A n c,bD] 25);obtain⟨aU,ap,ak,a0⟩:=dm aT;clear h aT av;go_in;by_cases aZ:W < 1
 ·clear az
  go_wp2
  go_ret2
  exact⟨rfl,ax⟩
 by_cases bm:8 < W
 ·clear az
  go_wp2
  go_ret2
  exact⟨rfl,ax⟩
 by_cases cd:H < 1
 ·clear az
  go_wp2
  go_ret2
  exact⟨rfl,ax⟩
 by_cases ch:8 < H
 ·clear az
  go_wp2
  go_ret2
  exact⟨rfl,ax⟩
 have dd:(n:Int)≠W*H:=by omega
 have bX:((n:Int) !=W*H)=S:=by simpa using dd
 have b5:b7.wrap (W*H)=W*H:=by
  have ao:0<=W*H:=Int.mul_nonneg (by omega) (by omega);have a2:W*H<=8*8:=Int.mul_le_mul (by omega) (by omega) (by omega) (by omega);exact ca _ (by omega)
 clear az;go_wp2
 go_ret2
 exact⟨rfl,ax⟩
theorem yl{w:ac}{b g j:Nat}{u:ae}(h:w.cell? ⟨b,j,F⟩=D u)(bi:g≠b)(x y z:ae):(((w.drew.setCell ⟨g,0,F⟩ x).setCell ⟨g,1,F⟩ y).setCell ⟨g,2,F⟩ z).cell? ⟨b,j,F⟩=D u:=fN (fN (fN (w:=w.drew) h bi) bi) bi
theorem zW(A:Option cF)(n c:Nat)(bD:ae)(W H:Nat)(mask:List Int)(w:ac)(h:Rd w 1 A n (bF mask))(hW:1<=W/\W<=8)(bN:1<=H/\H<=8)(az:mask.length=W*H):
  Calls aj 86 #[aq #[B o W, B o H, O A n c,bD]] w fun e Z=>
   ((mask.all fun m=>au (0<=m/\m<=15))=Q/\e= .returned (.tuple #[ad F, aa Q])/\Below w.heap.size w Z)∨
   ((mask.all fun m=>au (0<=m/\m<=15))=S/\e= .returned (.tuple #[ad (D ⟨w.heap.size+1+1+1,0,F⟩), aa S])/\∃m bJ,gO w W H (O A n c) bD (bG W mask) m bJ Z):=by
 obtain⟨bq,be⟩:=ai (mask.all fun m=>au (0<=m/\m<=15));rw[<-be];have a6:=R be;clear be;have av:=h.k5;have hn:n=W*H:=by omega
 have dB:n<=64:=by rw[hn];exact oJ hW.2 bN.2
 have dA:1<=n:=by rw[hn];exact oJ hW.1 bN.1
 obtain⟨b,E,hA,dw,_⟩:=h.2 (by omega);subst hA;have aT:=aQ w (Y #[B o W, B o H, O (D ⟨b,E,F⟩) n c,bD] 25);have ax:=aV w (Y #[B o W, B o H, O (D ⟨b,E,F⟩) n c,bD] 25);obtain⟨aU,ap,ak,a0⟩:=dm aT;have aZ:¬(W:Int) < 1:=by omega
 have bm:¬8 < (W:Int):=by omega
 have cd:¬(H:Int) < 1:=by omega
 have ch:¬8 < (H:Int):=by omega
 have c7:((n:Int) !=(W:Int)*(H:Int))=Q:=by rw[hn];simp
 have b5:b7.wrap ((W:Int)*(H:Int))=(W:Int)*(H:Int):=by
  have:(W:Int)*(H:Int)=(n:Int):=by rw[hn];simp
  rw[this];exact ca _ (by omega)
 obtain⟨cD,bx,dg⟩:=cq h av hn;clear h av az hn aT;have dz:=@run_makeMap aj;go_in
 go_wp2_with fail
 have bP:gO w W H (O (D ⟨b,E,F⟩) n c) bD (eb W mask 0) 0 (O F 0 0) ((((w.alloc (Y #[B o W, B o H, O (D ⟨b,E,F⟩) n c,bD] 25)).alloc (.map #[] 0)).alloc (.map #[] 0)).alloc (Y #[B o W, B o H, O (D ⟨b,E,F⟩) n c,bD, O F 0 0, .map (D (w.heap.size+1)), .map (D (w.heap.size+1+1))] 73)):=by
  have ci:(w.alloc (Y #[B o W, B o H, O (D ⟨b,E,F⟩) n c,bD] 25)).heap.size=w.heap.size+1:=by simp
  have ck:((w.alloc (Y #[B o W, B o H, O (D ⟨b,E,F⟩) n c,bD] 25)).alloc (.map #[] 0)).heap.size=w.heap.size+1+1:=by simp
  have b9:=co.made ei (w.alloc (Y #[B o W, B o H, O (D ⟨b,E,F⟩) n c,bD] 25));have cb:=co.made e8 ((w.alloc (Y #[B o W, B o H, O (D ⟨b,E,F⟩) n c,bD] 25)).alloc (.map #[] 0));rw[ci] at b9;rw[ck] at cb;refine⟨aW (aW (aW (aQ w _) _) _) _,⟨?_, ?_, ?_⟩,gl _ _ _ _,aN (aN (aN ax _) _) _⟩;·exact dE _ (by simp)
  ·have e:eH (eb W mask 0)=fun _=>F:=Bm
   rw[e];exact(b9.alloc _).alloc _
  ·exact cb.alloc _
 generalize (((w.alloc (Y #[B o W, B o H, O (D ⟨b,E,F⟩) n c,bD] 25)).alloc (.map #[] 0)).alloc (.map #[] 0)).alloc (Y #[B o W, B o H, O (D ⟨b,E,F⟩) n c,bD, O F 0 0, .map (D (w.heap.size+1)), .map (D (w.heap.size+1+1))] 73)=w4 at bP |-;clear aU ap ak a0 ax aZ bm cd ch c7 b5;go_loopw [46] (fun bl wr=>∃(i m:Nat) (bJ:ae),i<=n/\bl= B o i/\Hid (((mask.take i).all fun m=>au (0<=m/\m<=15))=S)/\m<=4*i/\Hid (gO w W H (O (D ⟨b,E,F⟩) n c) bD (eb W mask i) m bJ wr)) (fun bl _=>n-(intOf bl).toNat)
 case atStart=>exact⟨0,0, O F 0 0,by omega,rfl,R rfl,by omega,R bP⟩
 obtain⟨i,m,bJ,al,rfl,hall,bX,an⟩:=hrel;by_cases c3:i < n
 ·obtain⟨b1,dK,z,hA,_,aI,dx⟩:=(cD.out.below an.out.bel).int c3
  cases hA
  have bc:=R aI;have b6:mask.getD i 0=z:=by rw[cf,aI];rfl
  have cG:=R b6;clear aI b6;by_cases ci:z < 0
  ·have aO:bq=Q:=by
    rw[a6.out,p8];intro h;have:=dM.1 h z (cH bc.out);simp at this;omega
   have a7:=R aO;clear aO;go_wp2
   go_ret2
   exact .inl ⟨a7.out,rfl,an.out.bel⟩
  by_cases ck:15 < z
  ·have aO:bq=Q:=by
    rw[a6.out,p8];intro h;have:=dM.1 h z (cH bc.out);simp at this;omega
   have a7:=R aO;clear aO;go_wp2
   go_ret2
   exact .inl ⟨a7.out,rfl,an.out.bel⟩
  go_wp2_with fail
  go_loopw [57] (fun bo wr=>∃(q m:Nat) (bJ:ae),q<=4/\bo= B o q/\m<=4*i+q/\Hid (gO w W H (O (D ⟨b,E,F⟩) n c) bD (eb W mask i++fg W mask i q) m bJ wr)) (fun bo _=>4-(intOf bo).toNat)
  case atStart=>exact⟨0,m,bJ,by omega,rfl,by omega,R (by have:=an.out;simpa[fg] using this)⟩
  obtain⟨q,m,bJ,dC,rfl,bX,an⟩:=hrel;by_cases dD:q < 4
  ·have dF:(q:Int) < 4:=by omega
   have aC:=sO W mask i q;rw[cG.out] at aC
   cases aF:i1 z q with
   | false=>
    have cZ:(bits .and o (z / 2 ^ q) 1==1)=Q:=by
     rw[nV];have:=of_decide_eq_false aF;simpa using this
    rw[aF,if_neg (by decide),List.append_nil] at aC;have a8:=R aC;clear aC aF;go_wp2;go_roundw
    case rel=>exact⟨q+1,m,bJ,by omega,by go_num,by omega,R (by rw[a8.out];exact an.out)⟩
    case measure=>simp[intOf];omega
   | true=>
    have cZ:(bits .and o (z / 2 ^ q) 1==1)=S:=by
     rw[nV];have:=of_decide_eq_true aF;simpa using this
    rw[aF,if_pos rfl] at aC;have a8:=R aC;have cg:=aB an.out.box 0;simp only[cP,cU,cO] at cg;have cW:(W:Int)≠0:=by omega
    have dr:((W:Int)==0)=Q:=by simpa using cW
    have dq:¬W=0:=by omega
    obtain⟨bv,a3⟩:=ai (i % W);obtain⟨bs,aM⟩:=ai (i / W);have dH:(i:Int).tmod (W:Int)=(bv:Int):=by rw[a3];rfl
    have dG:b7.wrap ((i:Int) / (W:Int))=(bs:Int):=by
     have e:(i:Int) / (W:Int)=(bs:Int):=by rw[aM];rfl
     have dy:bs<=i:=by rw[aM];exact Nat.div_le_self i W
     rw[e];exact ca _ (by omega)
    have du:bv<=64:=by rw[a3];exact ec (Nat.mod_le _ _) (by omega)
    have dv:bs<=64:=by rw[aM];exact ec (Nat.div_le_self _ _) (by omega)
    obtain⟨bt,bu⟩:=aY a3 aM;clear a3 aM;have c8:wr.heap.size≠w.heap.size:=by have:=am an.out.box;omega
    clear aC aF
    go_wp2_with fail
    have bQ:wr.drew.cell? ⟨w.heap.size,0,F⟩=D (B o W)/\Below wr.heap.size wr wr.drew:=⟨cg,aX.drew⟩
    go_region_held3 (fun Z=>Z.cell? ⟨w.heap.size,0,F⟩=D (B o W)/\Below wr.heap.size wr Z)
     (first
      | with_reducible exact bQ
      | with_reducible assumption
      | exact⟨aD cg _,(aV wr _).drew⟩
      | exact⟨yl (aD cg _) c8 _ _ _,((((aV wr _).drew).setCell (p:=⟨wr.heap.size,0,F⟩) ce _).setCell (p:=⟨wr.heap.size,1,F⟩) ce _).setCell (p:=⟨wr.heap.size,2,F⟩) ce _⟩)
     (first
      | fail)
    rename_i cT
    clear cT bQ;have dc:=aQ wr (Y #[B o bv, B o bs, B o q] 53);have bU:=(aV wr (Y #[B o bv, B o bs, B o q] 53)).drew;have bk:(wr.alloc (Y #[B o bv, B o bs, B o q] 53)).drew.heap[wr.heap.size]? =D (Y #[B o bv, B o bs, B o q] 53 (0,0)):=dc;have aA:=an.out.below bU
    go_wp2_with fail
    generalize (wr.alloc (Y #[B o bv, B o bs, B o q] 53)).drew=w5 at bk bU aA |-;obtain⟨L,aK⟩:=ai (eb W mask i++fg W mask i q);have bZ:(((bv:Nat):Int),((bs:Nat):Int),(q:Int)) ∉ L:=by
     rw[aK,bt.out,bu.out];exact A4 (by omega) mask i q
    rw[<-aK] at aA;obtain⟨cw,bz,cy⟩:=cq aK aA bZ;have dI:=aA.cj.bC;have dJ:=aA.cj.b8;obtain⟨dL,dN,dO⟩:=dl bk;have dp:L.length<=1000:=by
     rw[aK];have:=pH W mask i q;omega
    obtain⟨T,bC,db,dn⟩:=uU aA.own;subst db;clear aK aA bZ
    go_still_tail 10,(by kernel_rfl)
    change wpList _ _ _ _ _ w5.drew
    go_wp2_with (at_mapUpdate;go_loud (refine mn (k:=ei) rfl _ _ _ rfl bz.out.cj.num.drew rfl (by unfold maxLen;omega) (((bv:Nat):Int),((bs:Nat):Int),(q:Int)) (by simp only[ei,bj];omega) (L.length:Int) rfl rfl (nB (by unfold bj;omega)) ?_);intro N bY bW)
    obtain⟨cx,a9⟩:=aY bY bW;clear bY bW;go_upto_region 15 with fail
    have c6:L.length+1<=2147483648:=by omega
    have a5:=bz.out;have bh:=a5.pD a9.out;have bg:=a5.wY a9.out;have a1:=a5.zU a9.out bk (Bn cy.out▸cx.out);have da:∀af,w.heap.size<=(N.alloc af).drew.heap.size:=fun af=>by
     have:=a1.bel.size;show w.heap.size<=(N.alloc af).heap.size
     simp;omega
    have bS:∀k,(Value.slice T L.length bC).ownBlock=D k->k≠wr.heap.size:=fun k c5=>by
     have:=(uR an.out.own c5).2;omega
    have bT:=fun v2 bp h1 ab ag=>mB.sC (w:=w) (W:=W) (H:=H) (aS:= O (D ⟨b,E,F⟩) n c) (bD:=bD) (L:=L) (m:=m+1) (fZ:=wr.heap.size) (bv:=bv) (bs:=bs) (q:=q) (bJ:= O T L.length bC) a1 bg bh bS v2 bp (af:= Y #[B o bv, B o bs, B o q] 53) h1 ab ag;obtain⟨cC,bw,cr,ba⟩:=df bh bg bT a1;have b4:iR W i q=(((bv:Nat):Int),((bs:Nat):Int),(q:Int)):=by
     rw[bt.out,bu.out];rfl
    have cE:=R b4;clear a5 bh bg a1 bS bT b4
    -- REGION15
    refine mo (fun r bd P=>∃s:Nat->ae,bd={tmps:=#[aq #[B o W, B o H, O (D ⟨b,E,F⟩) n c,bD], ad (D ⟨w.heap.size,0,F⟩),u2,u3, ad (D ⟨w.heap.size+1+1+1,0,F⟩), B o i, B o z, B o q, ad (D ⟨wr.heap.size,0,F⟩), ad (D ⟨w.heap.size,0,F⟩), B o W, aa Q, aa Q, ad (D ⟨w.heap.size,0,F⟩), B o W, aa Q, aa Q, aa Q, ad (D ⟨w.heap.size,1,F⟩), B o H, aa Q, aa Q, aa Q, ad (D ⟨w.heap.size,1,F⟩), B o H, aa Q, aa Q, aa Q, ad (D ⟨w.heap.size,2,F⟩), O (D ⟨b,E,F⟩) n c, B o n, ad (D ⟨w.heap.size,0,F⟩), B o W, ad (D ⟨w.heap.size,1,F⟩), B o H, B o ((W:Int)*(H:Int)), aa Q, aa Q, aq #[B o W, B o H, O (D ⟨b,E,F⟩) n c,bD], .map (D (w.heap.size+1)), .map (D (w.heap.size+1+1)), aq #[B o W, B o H, O (D ⟨b,E,F⟩) n c,bD, O F 0 0, .map (D (w.heap.size+1)), .map (D (w.heap.size+1+1))], ad (D ⟨w.heap.size+1+1+1,0,F⟩), ad (D ⟨w.heap.size,2,F⟩), O (D ⟨b,E,F⟩) n c, B o n, B o i, aa S, B o i, ad (D ⟨b,E+i,F⟩), B o z, B o z, aa Q, aa Q, B o z, aa Q, aa Q, B o q, aa S, B o q, B o z, B o q, B o (z / 2 ^ q), B o (bits .and o (z / 2 ^ q) 1), aa S, B o i, ad (D ⟨w.heap.size,0,F⟩), B o W, B o bv, B o i, ad (D ⟨w.heap.size,0,F⟩), B o W, B o bs, B o q, aq #[B o bv, B o bs, B o q], ad (D ⟨w.heap.size+1+1+1,0,F⟩), ad (D ⟨w.heap.size+1+1+1,0,F⟩), ad (D ⟨w.heap.size+1+1+1,5,F⟩), .map (D (w.heap.size+1)), aq #[B o bv, B o bs, B o q], ad (D ⟨w.heap.size+1+1+1,0,F⟩), ad (D ⟨w.heap.size+1+1+1,0,F⟩), ad (D ⟨w.heap.size+1+1+1,4,F⟩), O T L.length bC, B o L.length,(s 0),(s 1),(s 2),(s 3),(s 4),(s 5),(s 6),(s 7),(s 8),(s 9),u95,u96,U],defers:= []}/\cL 11 [D (ad (D ⟨w.heap.size+1+1+1,0,F⟩)),D (ad (D ⟨w.heap.size+1+1+1,0,F⟩)),D (ad (D ⟨w.heap.size+1+1+1,0,F⟩)),D (ad (D ⟨w.heap.size+1+1+1,4,F⟩)),D (O T L.length bC),D (aq #[B o bv, B o bs, B o q]),D (O (D ⟨N.heap.size,0,F⟩) 1 1),F,D (ad (D ⟨w.heap.size+1+1+1,0,F⟩)),D (ad (D ⟨w.heap.size+1+1+1,4,F⟩)),D (U)] r s/\lz r/\iA (fun P=>P=N.drew) (fun P=>P=(N.alloc (Y #[B o bv, B o bs, B o q] 53)).drew) (nO w W H (O (D ⟨b,E,F⟩) n c) bD L (m+1) wr.heap.size bv bs q (O T L.length bC)) (fun P=>∃v,nP w W H (O (D ⟨b,E,F⟩) n c) bD L (m+1) wr.heap.size bv bs q (O T L.length bC) v P) (r.getD 6 Q) (r.getD 7 Q) (r.getD 10 Q) (s 7) P) (by kernel_rfl) ?_ ?_ ?_
    ·exact⟨pk [u85,u86,u87,u88,u89,u90,u91,u92,u93,u94],rfl,cL.start 11 _ _,xf,rfl⟩
    ·intro r bd P ar bf l
     obtain⟨s,rfl,aP,a4,hst⟩:=bf;have c1:ar < 11:=jU l;obtain⟨a,G,ah⟩:=cq aP a4 hst;clear aP a4 hst;have c2:ar=0∨ar=1∨ar=2∨ar=3∨ar=4∨ar=5∨ar=6∨ar=7∨ar=8∨ar=9∨ar=10:=by omega
     clear c1;rcases c2 with rfl | rfl | rfl | rfl | rfl | rfl | rfl | rfl | rfl | rfl | rfl
     ·have J:=jb a.out.aL (by decide) (mem_ready.1 l).1
      clear l;refine cB rfl (fun K I=> ?_);go_simp;refine I _ _ ?_;exact⟨bO s 0 (ad (D ⟨w.heap.size+1+1+1,0,F⟩)),rfl,cL.put a.out (fun u M=>by cases M;rfl),G.out.fX (by decide) (by decide) (by decide),iA.k7 ah.out (by decide) (by decide) (by decide) rfl⟩
     ·have J:=jb a.out.aL (by decide) (mem_ready.1 l).1
      clear l;refine cB rfl (fun K I=> ?_);go_simp;refine I _ _ ?_;exact⟨bO s 1 (ad (D ⟨w.heap.size+1+1+1,0,F⟩)),rfl,cL.put a.out (fun u M=>by cases M;rfl),G.out.fX (by decide) (by decide) (by decide),iA.k7 ah.out (by decide) (by decide) (by decide) rfl⟩
     ·have J:=jb a.out.aL (by decide) (mem_ready.1 l).1
      have d1:=cA l (k:=1) (by kernel_rfl);clear l;have ap:s 1= ad (D ⟨w.heap.size+1+1+1,0,F⟩):=a.out.v d1 rfl;refine cB rfl (fun K I=> ?_);go_simp;refine I _ _ ?_;exact⟨bO (bO s 1 (ad (D ⟨w.heap.size+1+1+1,0,F⟩))) 2 (ad (D ⟨w.heap.size+1+1+1,0,F⟩)),rfl,cL.put (a.out.dt (j:=1) (v:= ad (D ⟨w.heap.size+1+1+1,0,F⟩)) ap) (fun u M=>by cases M;rfl),G.out.fX (by decide) (by decide) (by decide),iA.k7 ah.out (by decide) (by decide) (by decide) rfl⟩
     ·have J:=jb a.out.aL (by decide) (mem_ready.1 l).1
      have d2:=cA l (k:=2) (by kernel_rfl);clear l;have ak:s 2= ad (D ⟨w.heap.size+1+1+1,0,F⟩):=a.out.v d2 rfl;refine cB rfl (fun K I=> ?_);go_simp;refine I _ _ ?_;exact⟨bO (bO s 2 (ad (D ⟨w.heap.size+1+1+1,0,F⟩))) 3 (ad (D ⟨w.heap.size+1+1+1,4,F⟩)),rfl,cL.put (a.out.dt (j:=2) (v:= ad (D ⟨w.heap.size+1+1+1,0,F⟩)) ak) (fun u M=>by cases M;rfl),G.out.fX (by decide) (by decide) (by decide),iA.k7 ah.out (by decide) (by decide) (by decide) rfl⟩
     ·have J:=jb a.out.aL (by decide) (mem_ready.1 l).1
      have cJ:=cA l (k:=3) (by kernel_rfl);clear l;have a0:s 3= ad (D ⟨w.heap.size+1+1+1,4,F⟩):=a.out.v cJ rfl;have V:r.getD 7 Q=Q:=by
       cases h:r.getD 7 Q with
       | false=>rfl
       | true=>rw[(G.out.1 h).1] at J;cases J
      have aw:r.getD 10 Q=Q:=by
       cases h:r.getD 10 Q with
       | false=>rfl
       | true=>rw[G.out.2.1 h] at V;cases V
      have bV:P.heap[w.heap.size+1+1+1]? =D (Y #[B o W, B o H, O (D ⟨b,E,F⟩) n c,bD, O T L.length bC, .map (D (w.heap.size+1)), .map (D (w.heap.size+1+1))] 73 (0,0)):=by
       have h:=ah.out;rw[V,aw] at h
       cases aE:r.getD 6 Q with
       | false=>rw[aE] at h;have ab:P=N.drew:=h;rw[ab];exact bw.out
       | true=>rw[aE] at h;have ab:P=(N.alloc (Y #[B o bv, B o bs, B o q] 53)).drew:=h;rw[ab];exact aW bw.out _
      have cI:=aB bV 4;simp only[cP,cU,cO] at cI;clear V aw bV;refine cB rfl (fun K I=> ?_);go_simp;refine I _ _ ?_;exact⟨bO (bO s 3 (ad (D ⟨w.heap.size+1+1+1,4,F⟩))) 4 (O T L.length bC),rfl,cL.put (a.out.dt (j:=3) (v:= ad (D ⟨w.heap.size+1+1+1,4,F⟩)) a0) (fun u M=>by cases M;rfl),G.out.fX (by decide) (by decide) (by decide),iA.k7 ah.out (by decide) (by decide) (by decide) rfl⟩
     ·have J:=jb a.out.aL (by decide) (mem_ready.1 l).1
      clear l;have aE:r.getD 6 Q=Q:=by
       cases h:r.getD 6 Q with
       | false=>rfl
       | true=>rw[G.out.2.2 h] at J;cases J
      have V:r.getD 7 Q=Q:=by
       cases h:r.getD 7 Q with
       | false=>rfl
       | true=>rw[(G.out.1 h).2] at aE;cases aE
      have aw:r.getD 10 Q=Q:=by
       cases h:r.getD 10 Q with
       | false=>rfl
       | true=>rw[G.out.2.1 h] at V;cases V
      have aR:P=N.drew:=by
       have h:=ah.out;rw[aE,V,aw] at h;exact h
      subst aR;have dh:N.drew.cell? ⟨wr.heap.size,0,F⟩=D (B o bv):=by have:=aB ba.out.ay 0;simpa using this
      have di:N.drew.cell? ⟨wr.heap.size,1,F⟩=D (B o bs):=by have:=aB ba.out.ay 1;simpa using this
      have dj:N.drew.cell? ⟨wr.heap.size,2,F⟩=D (B o q):=by have:=aB ba.out.ay 2;simpa using this
      refine cB rfl (fun K I=> ?_);go_simp;refine I _ _ ?_;exact⟨bO s 5 (aq #[B o bv, B o bs, B o q]),rfl,cL.put a.out (fun u M=>by cases M;rfl),G.out.fX (by decide) (by decide) (by decide),iA.k7 ah.out (by decide) (by decide) (by decide) rfl⟩
     ·have J:=jb a.out.aL (by decide) (mem_ready.1 l).1
      have bB:=cA l (k:=5) (by kernel_rfl);clear l;have cN:s 5= aq #[B o bv, B o bs, B o q]:=a.out.v bB rfl;have V:r.getD 7 Q=Q:=by
       cases h:r.getD 7 Q with
       | false=>rfl
       | true=>rw[(G.out.1 h).2] at J;cases J
      have aw:r.getD 10 Q=Q:=by
       cases h:r.getD 10 Q with
       | false=>rfl
       | true=>rw[G.out.2.1 h] at V;cases V
      have aR:P=N.drew:=by
       have h:=ah.out;rw[J,V,aw] at h;exact h
      subst aR;refine cB rfl (fun K I=> ?_);go_simp;refine I _ _ ?_;exact⟨bO (bO s 5 (aq #[B o bv, B o bs, B o q])) 6 (O (D ⟨N.heap.size,0,F⟩) 1 1),rfl,cL.put (a.out.dt (j:=5) (v:= aq #[B o bv, B o bs, B o q]) cN) (fun u M=>by cases M;rfl),⟨fun h=>absurd (show r.getD 7 Q=S by rw[<-h];exact(gE (by decide)).symm) (by rw[V];decide),fun h=>absurd (show r.getD 10 Q=S by rw[<-h];exact(gE (by decide)).symm) (by rw[aw];decide),fun _=>ix bB⟩,by rw[set_self a.out.aL (by decide),gE (by decide),gE (by decide),V,aw];rfl⟩
     ·have J:=jb a.out.aL (by decide) (mem_ready.1 l).1
      have bA:=cA l (k:=4) (by kernel_rfl);have aG:=cA l (k:=6) (by kernel_rfl);clear l;have bE:s 4= O T L.length bC:=a.out.v bA rfl;have bH:s 6= O (D ⟨N.heap.size,0,F⟩) 1 1:=a.out.v aG rfl;have aw:r.getD 10 Q=Q:=by
       cases h:r.getD 10 Q with
       | false=>rfl
       | true=>rw[G.out.2.1 h] at J;cases J
      have aR:P=(N.alloc (Y #[B o bv, B o bs, B o q] 53)).drew:=by
       have h:=ah.out;rw[J,aG,aw] at h;exact h
      subst aR;refine cB rfl (fun K I=> ?_);rw[bE,bH];refine nv Tryz.underlying54 jm rfl (by decide) (by decide) rfl (.tmp 89) (.tmp 91) rfl w.heap.size (O T L.length bC) L.length (bn L) [B o bv, B o bs, B o q] (by rfl) (cC.out.alloc _) (da _) 1 N.heap.size (by rfl) (dE _ rfl) rfl (jX _ _ _) c6 ?_;intro v2 bp c9 cY c0;have cV:=cr.out v2 bp c9 cY c0;refine I _ _ ?_;exact⟨bO (bO (bO s 4 (O T L.length bC)) 6 (O (D ⟨N.heap.size,0,F⟩) 1 1)) 7 v2,rfl,cL.put ((a.out.dt (j:=4) (v:= O T L.length bC) bE).dt (j:=6) (v:= O (D ⟨N.heap.size,0,F⟩) 1 1) bH) (fun u M=>by cases M),⟨fun _=>⟨ix bA,ix aG⟩,fun _=>set_self a.out.aL (by decide),fun h=>ix (G.out.2.2 aG)⟩,by rw[set_self a.out.aL (by decide),gE (by decide),gE (by decide),aw,mm,aG];exact cV⟩
     ·have J:=jb a.out.aL (by decide) (mem_ready.1 l).1
      have d0:=cA l (k:=0) (by kernel_rfl);clear l;have aU:s 0= ad (D ⟨w.heap.size+1+1+1,0,F⟩):=a.out.v d0 rfl;refine cB rfl (fun K I=> ?_);go_simp;refine I _ _ ?_;exact⟨bO (bO s 0 (ad (D ⟨w.heap.size+1+1+1,0,F⟩))) 8 (ad (D ⟨w.heap.size+1+1+1,0,F⟩)),rfl,cL.put (a.out.dt (j:=0) (v:= ad (D ⟨w.heap.size+1+1+1,0,F⟩)) aU) (fun u M=>by cases M;rfl),G.out.fX (by decide) (by decide) (by decide),iA.k7 ah.out (by decide) (by decide) (by decide) rfl⟩
     ·have J:=jb a.out.aL (by decide) (mem_ready.1 l).1
      have cK:=cA l (k:=8) (by kernel_rfl);clear l;have cQ:s 8= ad (D ⟨w.heap.size+1+1+1,0,F⟩):=a.out.v cK rfl;refine cB rfl (fun K I=> ?_);go_simp;refine I _ _ ?_;exact⟨bO (bO s 8 (ad (D ⟨w.heap.size+1+1+1,0,F⟩))) 9 (ad (D ⟨w.heap.size+1+1+1,4,F⟩)),rfl,cL.put (a.out.dt (j:=8) (v:= ad (D ⟨w.heap.size+1+1+1,0,F⟩)) cQ) (fun u M=>by cases M;rfl),G.out.fX (by decide) (by decide) (by decide),iA.k7 ah.out (by decide) (by decide) (by decide) rfl⟩
     have J:=jb a.out.aL (by decide) (mem_ready.1 l).1;have cM:=cA l (k:=9) (by kernel_rfl);have aH:=cA l (k:=7) (by kernel_rfl);clear l;have cR:s 9= ad (D ⟨w.heap.size+1+1+1,4,F⟩):=a.out.v cM rfl;have aJ:nO w W H (O (D ⟨b,E,F⟩) n c) bD L (m+1) wr.heap.size bv bs q (O T L.length bC) (s 7) P:=by
      have h:=ah.out;rw[J,aH] at h;exact h
     obtain⟨bK,dk,bI⟩:=aJ.f;have ct:=R aJ;have de:=aB aJ.b 4;simp only[cP,cU,cO] at de;have dP:=br aJ.b 4;clear aJ;refine cB rfl (fun K I=> ?_);go_simp;refine I _ _ ?_;exact⟨bO (bO (bO s 9 (ad (D ⟨w.heap.size+1+1+1,4,F⟩))) 7 (O (D ⟨bK,0,F⟩) (L.length+1) dk)) 10 U,rfl,cL.put ((a.out.dt (j:=9) (v:= ad (D ⟨w.heap.size+1+1+1,4,F⟩)) cR).dt (j:=7) (v:= O (D ⟨bK,0,F⟩) (L.length+1) dk) bI) (fun u M=>by cases M;rfl),⟨fun h=>⟨ix (G.out.1 aH).1,ix (G.out.1 aH).2⟩,fun _=>ix aH,fun h=>ix (G.out.2.2 (G.out.1 aH).2)⟩,by rw[set_self a.out.aL (by decide)];exact⟨_,(bI▸ct.out).store⟩⟩
    intro r bd P bf b3;obtain⟨s,cX,aP,a4,hst⟩:=bf;have hall:=lE b3 aP.aL (by kernel_rfl);rw[hall 10 (by decide)] at hst;obtain⟨v2,bL⟩:∃v,nP w W H (O (D ⟨b,E,F⟩) n c) bD L (m+1) wr.heap.size bv bs q (O T L.length bC) v P:=hst;have cv:=R bL;clear b3 aP a4 hall bL;subst cX;go_wp2;go_roundw
    case rel=>exact⟨q+1,m+1,v2,by omega,by go_num,by omega,R (by rw[a8.out,<-nI,<-cw.out,cE.out];exact cv.out.lay)⟩
    case measure=>simp[intOf];omega
  obtain rfl:q=4:=by omega
  have b2:gO w W H (O (D ⟨b,E,F⟩) n c) bD (eb W mask (i+1)) m bJ wr:=by rw[pG];exact an.out
  have bR:((mask.take (i+1)).all fun m=>au (0<=m/\m<=15))=S:=by
   rw[hT,bc.out,List.all_append,hall.out];simp;omega
  obtain⟨cz,cl⟩:=aY b2 bR;clear b2 bR;go_wp2;go_roundw
  case rel=>exact⟨i+1,m,bJ,by omega,by go_num,cl,by omega,cz⟩
  case measure=>simp[intOf];omega
 obtain rfl:i=n:=by omega
 go_wp2
 go_ret2
 have h1:=hall.out;rw[hU (by rw[bx.out];exact ce)] at h1;have ab:=an.out;rw[show eb W mask i=bG W mask by unfold bG;rw[bx.out]] at ab;exact .inr ⟨a6.out.trans h1,rfl,m,bJ,ab⟩
end
section
open Go.RowKit Go.Maps
theorem zV(A:Option cF)(n c:Nat)(bD:ae)(W H:Int)(mask:List Int)(w:ac)(h:Rd w 1 A n (bF mask))(hn:n<=140737488351232):
  Calls aj 86 #[aq #[B o W, B o H, O A n c,bD]] w fun e Z=>Below w.heap.size w Z/\
   ((iB W H mask=Q/\e= .returned (.tuple #[ad F, aa Q]))∨
   (iB W H mask=S/\e= .returned (.tuple #[ad (D ⟨w.heap.size+1+1+1,0,F⟩), aa S])/\∃r s m bJ,W=((r:Nat):Int)/\H=((s:Nat):Int)/\(1<=r/\r<=8)/\(1<=s/\s<=8)/\mask.length=r*s/\gO w r s (O A n c) bD (bG r mask) m bJ Z)):=by
 by_cases g:W < 1∨8 < W∨H < 1∨8 < H∨(mask.length:Int)≠W*H
 ·refine(zX A n c bD W H mask w h hn g).mono ?_
  rintro e Z ⟨rfl,E⟩;exact⟨E, .inl ⟨lG g,rfl⟩⟩
 have h1:1<=W/\W<=8:=by omega
 have ab:1<=H/\H<=8:=by omega
 have ag:(mask.length:Int)=W*H:=by
  apply Classical.byContradiction
  intro h;exact g (.inr (.inr (.inr (.inr h))))
 clear g;obtain⟨r,rfl⟩:=lo (show 0<=W by omega);obtain⟨s,rfl⟩:=lo (show 0<=H by omega);have az:mask.length=r*s:=by
  have:(mask.length:Int)=((r*s:Nat):Int):=by rw[ag];simp
  omega
 refine(zW A n c bD r s mask w h (by omega) (by omega) az).mono ?_;rintro e Z (⟨K,rfl,E⟩ | ⟨K,rfl,m,bJ,av⟩);·exact⟨E, .inl ⟨by rw[qK h1 ab ag,K],rfl⟩⟩
 ·exact⟨av.bel, .inr ⟨by rw[qK h1 ab ag,K],rfl,r,s,m,bJ,rfl,rfl,by omega,by omega,az,av⟩⟩
def cr(l:List bw):List ae:=l.flatMap fun c=> [B o c.1.1, B o c.1.2.1, B o c.1.2.2.1, B o c.1.2.2.2, B o c.2]
def tr(c:bw):List ae:= [B o c.1.1, B o c.1.2.1, B o c.1.2.2.1, B o c.1.2.2.2, B o c.2]
theorem xa(l:List bw):(cr l).length=l.length*5:=by
 induction l with
 | nil=>rfl
 | cons t l J=>simp[cr] at J |-;omega
theorem sK:∀(l:List bw) (i j:Nat) (t:bw),l[i]? =D t->j < 5->(cr l)[5*i+j]? =(tr t)[j]?
 | [],i,j,t,h,_=>by simp at h
 | a::l,0,j,t,h,G=>by
  simp at h;subst h;simp only[cr,List.flatMap_cons,Nat.mul_zero,Nat.zero_add];rw[hS (by simpa using G)];rfl
 | a::l,i+1,j,t,h,G=>by
  rw[cO] at h;have J:=sK l i j t h G;simp only[cr,List.flatMap_cons] at J |-;rw[List.getElem?_append_right (by simp;omega)];simp only[List.length_cons,List.length_nil];rw[show 5*(i+1)+j-(0+1+1+1+1+1)=5*i+j by omega];exact J
theorem Rd.mN{w:ac}{A:Option cF}{n:Nat}{cs:List bw}(h:Rd w 5 A n (cr cs)):cs.length=n:=by
 have:=h.1;rw[xa] at this;omega
theorem Rd.lK{w:ac}{b z n:Nat}{cs:List bw}(h:Rd w 5 (D ⟨b,z,F⟩) n (cr cs)){k:Nat}{c:bw}(hc:cs[k]? =D c):
  w.cell? ⟨b,z+k*5,F⟩=D (B o c.1.1)/\w.cell? ⟨b,z+k*5+1,F⟩=D (B o c.1.2.1)/\w.cell? ⟨b,z+k*5+2,F⟩=D (B o c.1.2.2.1)/\w.cell? ⟨b,z+k*5+3,F⟩=D (B o c.1.2.2.2)/\w.cell? ⟨b,z+k*5+4,F⟩=D (B o c.2):=by
 have av:=h.mN;have M:=(bM.1 hc).1;obtain⟨T,bX,e,_,hh⟩:=h.2 (by omega);cases e
 have key:∀j,j < 5->∀v,(tr c)[j]? =D v->w.cell? ⟨b,z+k*5+j,F⟩=D v:=by
  intro j G v R;have:=hh (5*k+j) v (by rw[sK cs k j c hc G,R])
  rwa [show z+(5*k+j)=z+k*5+j by omega] at this
 exact⟨key 0 (by omega) _ rfl,key 1 (by omega) _ rfl,key 2 (by omega) _ rfl,key 3 (by omega) _ rfl,key 4 (by omega) _ rfl⟩
def fY(cs:List bw):aO->Option Int:=cs.foldl (fun f c=>dX f c.1 c.2) (fun _=>F)
theorem zH(cs:List bw)(c:bw):fY (cs++ [c])=dX (fY cs) c.1 c.2:=by simp[fY]
theorem zI{cs:List bw}{i:Nat}{c:bw}(h:cs[i]? =D c):fY (cs.take (i+1))=dX (fY (cs.take i)) c.1 c.2:=by
 rw[hT,h];exact zH _ _
def kC(p:Option bw)(e:aO):Bool:=match p with
 | none=>S
 | some p=>fD p.1 e
theorem fq(l:List ah)(p:Option bw)(c:bw):et l p c=(kC p c.1 && au (c.2=1∨c.2=2) && gC l c.1):=by cases p <;> rfl
def dV(cs:List bw)(i:Nat):Option bw:=if i=0 then F else cs[i-1]?
theorem tf{l:List ah}{cs:List bw}{i:Nat}{c:bw}(h:cs[i]? =D c)(h1:eQ l F (cs.take i)=S)(ab:et l (dV cs i) c=S):eQ l F (cs.take (i+1))=S:=by
 rw[o3] at h1 |-;intro j d g;by_cases G:j < i
 ·have:=h1 j d (by rw[iT] at g |-;rw[if_pos G];rwa [if_pos (by omega)] at g)
  by_cases h0:j=0
  ·rw[if_pos h0] at this |-
   exact this
  rw[if_neg h0] at this |-;rw[iT,if_pos (by omega)] at this |-;exact this
 have N:j=i:=by
  rw[iT] at g
  split at g
  ·omega
  ·cases g
 subst N;rw[iT,if_pos (by omega),h] at g;cases g
 unfold dV at ab;by_cases h0:j=0
 ·rw[if_pos h0] at ab |-
  exact ab
 rw[if_neg h0] at ab |-;rw[iT,if_pos (by omega)];exact ab
theorem te{l:List ah}{cs:List bw}{i:Nat}{c:bw}(h:cs[i]? =D c)(ab:et l (dV cs i) c=Q):eQ l F cs=Q:=by
 rw[p8];intro h1;rw[o3] at h1;have:=h1 i c h;unfold dV at ab;rw[this] at ab;cases ab
theorem pe{L:List ah}{e:aO}(hL:∀t ∈ L,gw t)(h:gC L e=S):e8.ok e:=by
 obtain⟨t,ht,i,al,rfl,_⟩:=pd.1 h;obtain⟨h1,ab,ag⟩:=hL t ht;obtain⟨x,y,e⟩:=iM ag;show bj _/\bj _/\bj _/\bj _
 unfold bj;rcases e7 al with rfl | rfl | rfl <;> rcases e with rfl | rfl | rfl | rfl <;> simp[lM,lN,lO,iF,iG,iH,lP,lQ,lR,lS,lT,lU] at h1 ab |- <;> omega
noncomputable def fu(W H:Int)(mask:List Int)(cs:List bw):Bool:=iB W H mask && (eQ (bG W.toNat mask) F cs && gc (bG W.toNat mask))
structure kg(w:ac)(b0 aA bz bg W H:Nat)(aS bD bJ:ae)(L:List ah)(dc:Nat)(cs:List bw)(i:Nat)(wr:ac):Prop where
 cj:eE wr aA bz bg W H aS bD bJ L dc i (fY (cs.take i))
 own:wr.ownsRow w.heap.size 53 3 bJ L.length (bn L)
 bel:Below w.heap.size w wr
 box:wr.heap[b0]? =D (Y #[B o W, B o H,aS,bD] 25 (0,0))
 pg:w.heap.size<=bg
 rB:bz≠bg
section
variable {w wr Z:ac} {b0 aA bz bg W H dc i:Nat} {aS bD bJ:ae} {L:List ah} {cs:List bw} {c:bw}
theorem kg.below(h:kg w b0 aA bz bg W H aS bD bJ L dc cs i wr)(E:Below wr.heap.size wr Z):kg w b0 aA bz bg W H aS bD bJ L dc cs i Z:=
 ⟨h.cj.below E,bo h.own E,ax h.bel E,aG h.box E (am h.box),h.pg,h.rB⟩
theorem kg.put(h:kg w b0 aA bz bg W H aS bD bJ L dc cs i wr)(hc:cs[i]? =D c)(I:wr.grownBy Z (D bg))(P:co e8 Z bg (i+1) (dX (fY (cs.take i)) c.1 c.2)):kg w b0 aA bz bg W H aS bD bJ L dc cs (i+1) Z:=by
 refine⟨⟨(I.block _ (am h.cj.bT) (fun e=>k1 h.cj.bT h.cj.d9.is e)).trans h.cj.bT,h.cj.num.heap (I.block _ h.cj.num.lt (fun e=>h.rB (by injection e))), ?_⟩,qh h.own I (.inr (eN h.own h.cj.d9.is)),h.bel.grown I h.bel.size (fun k M=>by cases M;exact h.pg),(I.block _ (am h.box) (fun e=>k1 h.box h.cj.d9.is e)).trans h.box,h.pg,h.rB⟩;rw[zI hc];exact P
end
end
section
set_option maxRecDepth 100000
section
open Go.RowKit Go.Maps
abbrev g5(W H:Nat)(Am:Option cF)(nm cm:Nat)(Ac:Option cF)(nc cc:Nat):ae:= aq #[B o W, B o H, O Am nm cm, O Ac nc cc]
structure eF(w:ac)(W H:Nat)(Am:Option cF)(nm:Nat)(mask:List Int)(Ac:Option cF)(nc:Nat)(cs:List bw):Prop where
 ih:1<=W/\W<=8
 km:1<=H/\H<=8
 len:mask.length=W*H
 pP:Rd w 1 Am nm (bF mask)
 pM:Rd w 5 Ac nc (cr cs)
 bz:nc<=140737488351232
section
variable {w Z:ac} {W H:Nat} {Am Ac:Option cF} {nm nc:Nat} {mask:List Int} {cs:List bw}
theorem eF.below(h:eF w W H Am nm mask Ac nc cs)(aJ:Below w.heap.size w Z):eF Z W H Am nm mask Ac nc cs:=⟨h.ih,h.km,h.len,h.pP.below aJ,h.pM.below aJ,h.bz⟩
theorem eF.Bi(h:eF w W H Am nm mask Ac nc cs):nm=W*H:=by
 have:=h.pP.k5;have:=h.len;omega
theorem eF.r2(h:eF w W H Am nm mask Ac nc cs):(bG W mask).length<=1000:=by
 have h1:=pH W mask mask.length 0;rw[gL] at h1;have ab:W*H<=8*8:=oJ h.ih.2 h.km.2;have ag:bG W mask=eb W mask mask.length:=rfl;have az:=h.len;rw[ag];omega
theorem eF.C7(h:eF w W H Am nm mask Ac nc cs){t:ah}(ht:t ∈ bG W mask):0<=t.1/\t.1 < W/\0<=t.2.1/\t.2.1 < H/\dN t:=lg (by have:=h.ih;omega) h.len ht
theorem eF.r3(h:eF w W H Am nm mask Ac nc cs){t:ah}(ht:t ∈ bG W mask):gw t:=by
 have:=h.C7 ht;have h1:=h.ih;have ab:=h.km;exact⟨by omega,by omega,this.2.2.2.2⟩
theorem eF.r4(h:eF w W H Am nm mask Ac nc cs):(bG W mask).Pairwise c3:=pF (by have:=h.ih;omega) mask _
end
theorem wW(z:Int)(k:Nat):(bits .and o (z / 2 ^ k) 1==1)=i1 z k:=by
 rw[nV];unfold i1;rw[e1];simp
theorem yK(W H x y k:Nat)(Am Ac:Option cF)(nm cm nc cc:Nat)(mask:List Int)(cs:List bw)(w:ac)(g:eF w W H Am nm mask Ac nc cs)(I:x < W)(bH:y < H)(bf:k < 4):
  Calls aj 76 #[g5 W H Am nm cm Ac nc cc, aq #[B o x, B o y, B o k]] w fun e Z=>e= .returned (aa (i1 (mask.getD (y*W+x) 0) k))/\Below w.heap.size w Z:=by
 have hnm:=g.Bi;have hW:=g.ih;have ba:=g.km;have cj:y*W<=7*8:=oJ (by omega) (by omega);have be:y*W+x < nm:=by
  rw[hnm];have h1:y*W+W=(y+1)*W:=by rw[Nat.add_mul,Nat.one_mul]
  have ab:(y+1)*W<=H*W:=Nat.mul_le_mul_right W (by omega);rw[my W H];omega
 obtain⟨p,bh⟩:=ai (y*W);obtain⟨j,bC⟩:=ai (p+x);rw[<-bh,<-bC] at be |-;have cN:b7.wrap ((y:Int)*(W:Int))=(p:Int):=by
  have:(y:Int)*(W:Int)=(p:Int):=by rw[bh];simp
  rw[this];exact ca _ (by omega)
 have cM:b7.wrap ((p:Int)+(x:Int))=(j:Int):=by rw[ca _ (by omega)];omega
 have cK:b7.wrap ((W:Int)-1)=(W:Int)-1:=ca _ (by omega);have cL:b7.wrap ((H:Int)-1)=(H:Int)-1:=ca _ (by omega);obtain⟨b,J,z,hA,cE,aI,bA⟩:=g.pP.int be;subst hA;have bI:mask.getD j 0=z:=by rw[cf,aI];rfl
 rw[bI];have b4:=wW z k;obtain⟨cv,br⟩:=ai (i1 z k);rw[<-br] at b4 |-;have cJ:(j:Int) < (nm:Int):=by omega
 have cI:(0:Int)<=(j:Int):=by omega
 have P:=aQ w (Y #[B o W, B o H, O (D ⟨b,J,F⟩) nm cm, O Ac nc cc] 25);have ay:=aW P (Y #[B o x, B o y, B o k] 53);have an:=aQ (w.alloc (Y #[B o W, B o H, O (D ⟨b,J,F⟩) nm cm, O Ac nc cc] 25)) (Y #[B o x, B o y, B o k] 53);rw[em] at an;have E:Below w.heap.size w ((w.alloc (Y #[B o W, B o H, O (D ⟨b,J,F⟩) nm cm, O Ac nc cc] 25)).alloc (Y #[B o x, B o y, B o k] 53)):=aN (aV _ _) _;have bc:=aD (aD bA (Y #[B o W, B o H, O (D ⟨b,J,F⟩) nm cm, O Ac nc cc] 25)) (Y #[B o x, B o y, B o k] 53);have c1:=fun(s:ac)=>b3 x 0 ((W:Int)-1) s;have c2:=fun(s:ac)=>b3 y 0 ((H:Int)-1) s
 have bV:=fun(s:ac)=>b3 k 0 3 s;rw[decide_eq_true (show(0:Int)<=x by omega),decide_eq_true (show(x:Int)<=(W:Int)-1 by omega)] at c1;rw[decide_eq_true (show(0:Int)<=y by omega),decide_eq_true (show(y:Int)<=(H:Int)-1 by omega)] at c2;rw[decide_eq_true (show(0:Int)<=k by omega),decide_eq_true (show(k:Int)<=3 by omega)] at bV;obtain⟨bJ,bK,bL⟩:=cq c1 c2 bV;clear c1 c2 bV g hnm cj bh bC aI bI br bA P;go_in;go_upto_region 1 with fail
 generalize (w.alloc (Y #[B o W, B o H, O (D ⟨b,J,F⟩) nm cm, O Ac nc cc] 25)).alloc (Y #[B o x, B o y, B o k] 53)=w2 at ay an E bc |-;obtain⟨a0,ao,a2⟩:=dl ay;obtain⟨aA,aB,aE⟩:=dl an;have aU:w2.drew.cell? ⟨w.heap.size,0,F⟩=D (B o W)/\w2.drew.cell? ⟨w.heap.size,1,F⟩=D (B o H)/\w2.drew.cell? ⟨w.heap.size,2,F⟩=D (O (D ⟨b,J,F⟩) nm cm)/\w2.drew.cell? ⟨w.heap.size+1,0,F⟩=D (B o x)/\w2.drew.cell? ⟨w.heap.size+1,1,F⟩=D (B o y)/\w2.drew.cell? ⟨w.heap.size+1,2,F⟩=D (B o k)/\w2.drew.cell? ⟨b,J+j,F⟩=D (B o z)/\Below w2.heap.size w2 w2.drew:=⟨a0,ao,a2,aA,aB,aE,bc,aX.drew⟩;clear ay an a0 ao a2 aA aB aE bc
 go_region_held3 (fun Z=>Z.cell? ⟨w.heap.size,0,F⟩=D (B o W)/\Z.cell? ⟨w.heap.size,1,F⟩=D (B o H)/\Z.cell? ⟨w.heap.size,2,F⟩=D (O (D ⟨b,J,F⟩) nm cm)/\Z.cell? ⟨w.heap.size+1,0,F⟩=D (B o x)/\Z.cell? ⟨w.heap.size+1,1,F⟩=D (B o y)/\Z.cell? ⟨w.heap.size+1,2,F⟩=D (B o k)/\Z.cell? ⟨b,J+j,F⟩=D (B o z)/\Below w2.heap.size w2 Z)
  (first
   | with_reducible exact aU
   | with_reducible assumption)
  (first
   | ((with_reducible refine(bJ.out _).mono ?_);rintro e wc ⟨am,aP⟩;subst am;subst aP)
   | ((with_reducible refine(bK.out _).mono ?_);rintro e wc ⟨am,aP⟩;subst am;subst aP)
   | ((with_reducible refine(bL.out _).mono ?_);rintro e wc ⟨am,aP⟩;subst am;subst aP))
 rename_i ba
 obtain⟨_,_,_,_,_,_,_,aZ⟩:=ba;go_wp2;go_ret;exact⟨rfl,ax E aZ⟩
end
section
open Go.RowKit Go.Maps
theorem xd{W x y:Nat}(I:x < W):(y*W+x) % W=x:=by
 rw[my,Nat.mul_add_mod,Nat.mod_eq_of_lt I]
theorem xc{W x y:Nat}(I:x < W):(y*W+x) / W=y:=by
 rw[my,Nat.mul_add_div (by omega),Nat.div_eq_of_lt I,Nat.add_zero]
theorem C6{W x y k:Nat}(I:x < W):iR W (y*W+x) k=((x:Int),(y:Int),(k:Int)):=by
 unfold iR;rw[xd I,xc I]
theorem BH(W:Nat)(mask:List Int)(n:Nat)(h:n<=64)(k:Nat)(bf:k<=4):(eb W mask n++fg W mask n k).length<=260:=by
 have:=pH W mask n k;omega
theorem lh(W H:Nat)(Am Ac:Option cF)(nm cm nc cc:Nat)(mask:List Int)(cs:List bw)(w:ac)(g:eF w W H Am nm mask Ac nc cs):
  Calls aj 28 #[g5 W H Am nm cm Ac nc cc] w fun e Z=>∃v,e= .returned v/\Z.ownsRow w.heap.size 53 3 v (bG W mask).length (bn (bG W mask))/\Below w.heap.size w Z:=by
 have hW:=g.ih;have ba:=g.km;have cd:=g.len;have P:=aQ w (Y #[B o W, B o H, O Am nm cm, O Ac nc cc] 25);have E:=aV w (Y #[B o W, B o H, O Am nm cm, O Ac nc cc] 25);have bs:=g.below E;have ar:=fun(s:ac) (aJ:Below (w.alloc (Y #[B o W, B o H, O Am nm cm, O Ac nc cc] 25)).heap.size (w.alloc (Y #[B o W, B o H, O Am nm cm, O Ac nc cc] 25)) s) (x y k:Nat) (I:x < W) (bH:y < H) (bf:k < 4)=>yK W H x y k Am Ac nm cm nc cc mask cs s (bs.below aJ) I bH bf;obtain⟨a0,ao,a2,aG⟩:=dm P;have aI:w.heap.size < (w.alloc (Y #[B o W, B o H, O Am nm cm, O Ac nc cc] 25)).heap.size:=by simp
 have aR:=R ar;clear ar g bs P;go_in
 go_wp2_with fail
 generalize w.alloc (Y #[B o W, B o H, O Am nm cm, O Ac nc cc] 25)=w0 at a0 ao a2 aG aI E aR |-;go_loopw [3,4] (fun v y wr=>∃b:Nat,b<=H/\y= B o b/\Hid (wr.ownsRow w0.heap.size 53 3 v (eb W mask (b*W)).length (bn (eb W mask (b*W))))/\Below w0.heap.size w0 wr) (fun _ y _=>H-(intOf y).toNat)
 case atStart=>exact⟨0,by omega,rfl,R (by rw[Nat.zero_mul];exact gl _ _ _ _),aX⟩
 obtain⟨b,aJ,rfl,G,A⟩:=hrel;have b1:=c9 ao A aI;by_cases b2:b < H
 ·have cD:(b:Int) < (H:Int):=by omega
  have cC:b*W+W<=64:=by
   have h1:b*W+W=(b+1)*W:=by rw[Nat.add_mul,Nat.one_mul]
   have ab:(b+1)*W<=8*8:=oJ (by omega) hW.2;omega
  go_wp2_with fail
  go_loopw [3,5] (fun v x wr=>∃a:Nat,a<=W/\x= B o a/\Hid (wr.ownsRow w0.heap.size 53 3 v (eb W mask (b*W+a)).length (bn (eb W mask (b*W+a))))/\Below w0.heap.size w0 wr) (fun _ x _=>W-(intOf x).toNat)
  case atStart=>exact⟨0,by omega,rfl,G,A⟩
  obtain⟨a,cz,rfl,G,A⟩:=hrel;have b0:=c9 a0 A aI;by_cases bu:a < W
  ·have cA:(a:Int) < (W:Int):=by omega
   go_wp2_with fail
   go_loopw [3,6] (fun v k wr=>∃c:Nat,c<=4/\k= B o c/\Hid (wr.ownsRow w0.heap.size 53 3 v (eb W mask (b*W+a)++fg W mask (b*W+a) c).length (bn (eb W mask (b*W+a)++fg W mask (b*W+a) c)))/\Below w0.heap.size w0 wr) (fun _ k _=>4-(intOf k).toNat)
   case atStart=>exact⟨0,by omega,rfl,R (by simpa[fg] using G.out),A⟩
   obtain⟨c,hc,rfl,G,A⟩:=hrel;by_cases b5:c < 4
   ·have cG:(c:Int) < 4:=by omega
    have b0:=aD (c9 a0 A aI) (Y #[B o a, B o b, B o c] 53);have b1:=aD (c9 ao A aI) (Y #[B o a, B o b, B o c] 53);have aC:=aD (c9 a2 A aI) (Y #[B o a, B o b, B o c] 53);have aM:=aD (c9 aG A aI) (Y #[B o a, B o b, B o c] 53);have an:=aQ wr (Y #[B o a, B o b, B o c] 53);obtain⟨aA,aB,aE⟩:=dl an;have af:=A.alloc A.size (Y #[B o a, B o b, B o c] 53);have a9:=aR.out _ af a b c bu b2 b5;have a3:=sO W mask (b*W+a) c;rw[C6 bu] at a3;have cb:=BH W mask (b*W+a) (by omega) c (by omega);obtain⟨aF,aK⟩:=ai (i1 (mask.getD (b*W+a) 0) c);rw[<-aK] at a9 a3;obtain⟨L,hL⟩:=ai (eb W mask (b*W+a)++fg W mask (b*W+a) c)
    rw[<-hL] at G cb;have bx:eb W mask (b*W+a)++fg W mask (b*W+a) (c+1)=L++if aF=S then [((a:Int),(b:Int),(c:Int))] else []:=by rw[a3,<-nI,<-hL]
    obtain⟨bl,bp,bq⟩:=cq a9 bx (bo G.out (aV wr (Y #[B o a, B o b, B o c] 53)));clear a9 a3 bx aK hL an G
    cases aF with
    | false=>
     go_wp2_with (go_at_call 76;refine aw bl.out fun cl T=> ?_)
     go_roundw
     case rel=>exact⟨c+1,by omega,by go_num,R (by rw[bp.out];simp only[Bool.false_eq_true,if_false,List.append_nil];exact bo bq.out (by assumption)),af.trans (Below.mono (by assumption) af.size)⟩
     case measure=>simp[intOf];omega
    | true=>
     go_wp2_with (first
      | (go_at_call 76;refine aw bl.out fun cl T=> ?_;have bm:=R T;have cQ:=V aA T;have cR:=V aB T;have cT:=V aE T;have cg:=(af.trans (Below.mono T af.size)).size;clear T)
      | (at_builtin;go_loud (refine i0 Tryz.underlying54 jm rfl (by decide) (by decide) rfl (.tmp 31) (.tmp 33) rfl w0.heap.size _ L.length (bn L) [B o a, B o b, B o c] rfl (bo bq.out bm.out) cg 1 _ rfl rfl rfl (jX _ _ _) (by omega) ?_);intro a8 Z ce bZ _))
     go_roundw
     case rel=>exact⟨c+1,by omega,by go_num,R (by rw[bp.out];simp only[if_true];rw[gL,jl];exact ce),(af.trans (Below.mono bm.out af.size)).trans bZ⟩
     case measure=>simp[intOf];omega
   obtain rfl:c=4:=by omega
   have bE:=pG W mask (b*W+a);have bT:=R bE;clear bE;go_wp2;go_roundw
   case rel=>exact⟨a+1,by omega,by go_num,R (by rw[<-Nat.add_assoc,bT.out];exact G.out),A⟩
   case measure=>simp[intOf];omega
  obtain rfl:a=W:=by omega
  have bD:b*a+a=(b+1)*a:=by rw[Nat.add_mul,Nat.one_mul]
  have bR:=R bD;clear bD;go_wp2;go_roundw
  case rel=>exact⟨b+1,by omega,by go_num,R (by rw[<-bR.out];exact G.out),A⟩
  case measure=>simp[intOf];omega
 obtain rfl:b=H:=by omega
 have aL:eb W mask (b*W)=bG W mask:=by
  unfold bG;rw[cd,my]
 have bP:=R aL;clear aL;go_wp2;go_ret;rw[bP.out] at G;exact⟨_,rfl,dn G.out E.size,E.trans (A.mono E.size)⟩
end
section
open Go.RowKit Go.Maps
theorem ze(W H:Nat)(Am Ac:Option cF)(nm cm nc cc:Nat)(mask:List Int)(cs:List bw)(e:aO)(w:ac)(g:eF w W H Am nm mask Ac nc cs):
  Calls aj 69 #[g5 W H Am nm cm Ac nc cc,bS e] w fun r Z=>r= .returned (aa (gC (bG W mask) e))/\Below w.heap.size w Z:=by
 have a4:∀t ∈ bG W mask,gw t:=fun t ht=>g.r3 ht;have bd:=xV (l:=bG W mask) (fun t ht=>(a4 t ht).2.2) (nt g.r4) e;have b9:=g.r2;have P:=aQ w (Y #[B o W, B o H, O Am nm cm, O Ac nc cc] 25);have ay:=aW P (Y #[B o e.1, B o e.2.1, B o e.2.2.1, B o e.2.2.2] 42);have bk:=aQ (w.alloc (Y #[B o W, B o H, O Am nm cm, O Ac nc cc] 25)) (Y #[B o e.1, B o e.2.1, B o e.2.2.1, B o e.2.2.2] 42);rw[em] at bk;have E:Below w.heap.size w ((w.alloc (Y #[B o W, B o H, O Am nm cm, O Ac nc cc] 25)).alloc (Y #[B o e.1, B o e.2.1, B o e.2.2.1, B o e.2.2.2] 42)):=aN (aV _ _) _;obtain⟨a0,ao,a2,aG⟩:=dm ay
 obtain⟨aS,ap,ak,aT⟩:=dm bk;have cZ:=lh W H Am Ac nm cm nc cc mask cs _ (g.below E);obtain⟨L,hL⟩:=ai (bG W mask);rw[<-hL] at cZ a4 bd b9 |-;obtain⟨bN,bW,bO⟩:=cq cZ a4 bd;have aI:w.heap.size+1 < ((w.alloc (Y #[B o W, B o H, O Am nm cm, O Ac nc cc] 25)).alloc (Y #[B o e.1, B o e.2.1, B o e.2.2.1, B o e.2.2.2] 42)).heap.size:=by simp
 clear cZ a4 bd hL g P ay bk;go_in
 go_wp2_with (go_at_call 28;refine bN.out.mono ?_;rintro r s ⟨v,rfl,bg,bv⟩;obtain⟨co,cx,ch,_,_⟩:=dd bg;subst ch;have K:=R bv;have a7:=R bg;clear bv bg)
 generalize (w.alloc (Y #[B o W, B o H, O Am nm cm, O Ac nc cc] 25)).alloc (Y #[B o e.1, B o e.2.1, B o e.2.2.1, B o e.2.2.2] 42)=w0 at a0 ao a2 aG aS ap ak aT E aI K a7;have a5:w.heap.size+1 < s.heap.size:=ju aI K.out.size;have aS:=c9 aS K.out aI;have ap:=c9 ap K.out aI;have ak:=c9 ak K.out aI;have aT:=c9 aT K.out aI;clear a0 ao a2 aG;go_loopw [6,7] (fun n i wr=>∃j:Nat,j<=L.length/\i= B o j/\n= B o ((L.take j).countP fun t=>bi t e)/\Below s.heap.size s wr) (fun _ i _=>L.length-(intOf i).toNat)
 case atStart=>exact⟨0,by omega,rfl,by simp,aX⟩
 obtain⟨j,be,rfl,rfl,al⟩:=hrel;by_cases b6:j < L.length
 ·obtain⟨t,ht⟩:∃t,L[j]? =D t:=⟨_,bb b6⟩
  obtain⟨av,cy,cw,ci,_,_,_,_⟩:=dF a7.out (by omega);cases ci
  have hts:=bW.out t (cH ht);obtain⟨aA,aB,aE⟩:=ey (bo a7.out al) ht;have bX:=c9 aS al a5;have f1:=c9 ap al a5;have f2:=c9 ak al a5;have bY:=c9 aT al a5;have a1:((L.take (j+1)).countP fun t=>bi t e)=((L.take j).countP fun t=>bi t e)+if bi t e=S then 1 else 0:=by
   rw[hT,ht,List.countP_append];simp[List.countP_cons]
  have b8:((L.take j).countP fun t=>bi t e)<=j:=ec List.countP_le_length (by rw[List.length_take];omega);have ar:=fun(ck:ac)=>pa t.1 t.2.1 t.2.2 e ck (by have:=hts.1;omega) (by have:=hts.1;omega) (by have:=hts.2.1;omega) (by have:=hts.2.1;omega) hts.2.2.1 hts.2.2.2;obtain⟨aF,aK⟩:=ai (bi t e);rw[show gW t.1 t.2.1 t.2.2 e=aF from aK.symm] at ar;rw[<-aK] at a1;obtain⟨N,aH⟩:=ai ((L.take j).countP fun t=>bi t e);rw[<-aH] at a1 b8 |-;obtain⟨a6,aR⟩:=aY a1 ar;clear ar aK aH a1
  go_wp2_with fail
  have aU:wr.drew.cell? ⟨w.heap.size+1,0,F⟩=D (B o e.1)/\wr.drew.cell? ⟨w.heap.size+1,1,F⟩=D (B o e.2.1)/\wr.drew.cell? ⟨w.heap.size+1,2,F⟩=D (B o e.2.2.1)/\wr.drew.cell? ⟨w.heap.size+1,3,F⟩=D (B o e.2.2.2)/\wr.drew.cell? ⟨av,j*3,F⟩=D (B o t.1)/\wr.drew.cell? ⟨av,j*3+1,F⟩=D (B o t.2.1)/\wr.drew.cell? ⟨av,j*3+2,F⟩=D (B o t.2.2)/\Below s.heap.size s wr.drew:=⟨bX,f1,f2,bY,aA,aB,aE,al.drew⟩
  go_region_held3 (fun Z=>Z.cell? ⟨w.heap.size+1,0,F⟩=D (B o e.1)/\Z.cell? ⟨w.heap.size+1,1,F⟩=D (B o e.2.1)/\Z.cell? ⟨w.heap.size+1,2,F⟩=D (B o e.2.2.1)/\Z.cell? ⟨w.heap.size+1,3,F⟩=D (B o e.2.2.2)/\Z.cell? ⟨av,j*3,F⟩=D (B o t.1)/\Z.cell? ⟨av,j*3+1,F⟩=D (B o t.2.1)/\Z.cell? ⟨av,j*3+2,F⟩=D (B o t.2.2)/\Below s.heap.size s Z)
   (first
    | with_reducible exact aU
    | with_reducible assumption
    | (go_split_ands;exact⟨V ‹_› M,V ‹_› M,V ‹_› M,V ‹_› M,V ‹_› M,V ‹_› M,V ‹_› M,ax ‹_› M⟩))
   (first
    | ((with_reducible refine(aR.out _).mono ?_);rintro r wc ⟨am,M⟩;subst am))
  rename_i bt
  have aZ:=bt.2.2.2.2.2.2.2;clear bt aU
  cases aF with
  | false=>
   have ct:=R (a6.out);go_wp2;go_roundw
   case rel=>exact⟨j+1,by omega,by go_num,by rw[a6.out];simp,aZ⟩
   case measure=>simp[intOf];omega
  | true=>
   go_wp2;go_roundw
   case rel=>exact⟨j+1,by omega,by go_num,by rw[a6.out];simp,aZ⟩
   case measure=>simp[intOf];omega
 obtain rfl:j=L.length:=by omega
 have aL:(((L.take L.length).countP fun t=>bi t e:Nat):Int)=2↔gC L e=S:=by
  rw[List.take_length,<-bO.out];omega
 have bj:(((((L.take L.length).countP fun t=>bi t e:Nat):Int))==2)=gC L e:=by
  rw[e1,beq_iff_eq];exact aL
 obtain⟨N,aH⟩:=ai ((L.take L.length).countP fun t=>bi t e);rw[<-aH] at bj |-;have bU:=R bj;clear aL aH bj;have bB:=E.trans ((K.out.trans (al.mono K.out.size)).mono E.size);have bQ:=R bB;clear bB;go_wp2;go_ret;exact⟨cW bU.out,bQ.out⟩
end
end
section
set_option maxRecDepth 100000
open Go.RowKit Go.Maps
variable {e:aO}{cs:List bw}{l:List ah}{j:Nat}{t:ah}
def ea(cs:List bw)(e:aO):Int:=match cs with
 | []=>0
 | c::cs=>if c.1=e then c.2 else ea cs e
theorem zE:∀{j:Nat} {c:bw},cs[j]? =D c->(∀d ∈ cs.take j,d.1≠e)->c.1=e->ea cs e=c.2:=by
 induction cs with
 | nil=>intro j c h;simp at h
 | cons a cs aR=>
  intro j c h hn hc
  cases j with
  | zero=>
   simp at h;subst h;simp[ea,hc]
  | succ j=>
   have h1:a.1≠e:=hn a (by simp);unfold ea;rw[if_neg h1];exact aR (by simpa using h) (fun d G=>hn d (by simp[G])) hc
theorem zG(h:∀d ∈ cs,d.1≠e):ea cs e=0:=by
 induction cs with
 | nil=>rfl
 | cons a cs aR=>
  unfold ea;rw[if_neg (h a (by simp))];exact aR (fun d G=>h d (by simp[G]))
theorem yf(a b:aO):(db [(a.1,b.1),(a.2.1,b.2.1),(a.2.2.1,b.2.2.1),(a.2.2.2,b.2.2.2)])=au (a=b):=by
 have h:=hB a b;unfold dA at h;rw[e1,h,decide_eq_true_eq]
theorem jE(a b:ah):(db [(a.1,b.1),(a.2.1,b.2.1),(a.2.2,b.2.2)])=au (a=b):=by
 obtain⟨ao,a2,aH⟩:=a;obtain⟨b1,aC,aM⟩:=b;rw[e1,decide_eq_true_eq];simp[db]
theorem oz{aS:Type}{P:aS->Prop}{l:List aS}{c:aS}(hc:l[j]? =D c)(h:∀d ∈ l.take j,P d)(hn:P c):∀d ∈ l.take (j+1),P d:=by
 intro d G;rw[hT,hc] at G;rcases List.mem_append.1 G with G | G
 ·exact h d G
 simp at G;subst G;exact hn
theorem rn(W H:Nat)(Am Ac:Option cF)(nm cm nc cc:Nat)(mask:List Int)(cs:List bw)(e:aO)(w:ac)(aI:eF w W H Am nm mask Ac nc cs):
  Calls aj 73 #[g5 W H Am nm cm Ac nc cc,bS e] w fun r Z=>r= .returned (B o (ea cs e))/\Below w.heap.size w Z:=by
 have hnc:=aI.bz;have bg:=aI.pM.mN;have a1:=aQ w (Y #[B o W, B o H, O Am nm cm, O Ac nc cc] 25);have a3:=aW a1 (Y #[B o e.1, B o e.2.1, B o e.2.2.1, B o e.2.2.2] 42);have af:=aQ (w.alloc (Y #[B o W, B o H, O Am nm cm, O Ac nc cc] 25)) (Y #[B o e.1, B o e.2.1, B o e.2.2.1, B o e.2.2.2] 42);rw[em] at af;have J:Below w.heap.size w ((w.alloc (Y #[B o W, B o H, O Am nm cm, O Ac nc cc] 25)).alloc (Y #[B o e.1, B o e.2.1, B o e.2.2.1, B o e.2.2.2] 42)):=aN (aV _ _) _;have aH:=aB a3 3;obtain⟨N,ap,ak,aT⟩:=dm af;simp only[cP,cU,cO] at aH;have aw:=aI.pM.below J
 obtain⟨an,T⟩:=ai (ea cs e);rw[<-T];obtain⟨K,am⟩:=aY aw T;clear aI a1 a3 af aw T;go_in
 go_wp2_with fail
 generalize (w.alloc (Y #[B o W, B o H, O Am nm cm, O Ac nc cc] 25)).alloc (Y #[B o e.1, B o e.2.1, B o e.2.2.1, B o e.2.2.2] 42)=w0 at aH N ap ak aT J K;have aK:w.heap.size+1 < w0.heap.size:=iS _ _ N;have ay:w.heap.size < w0.heap.size:=by omega
 go_loopw [5] (fun i wr=>∃j:Nat,j<=nc/\i= B o j/\Hid (∀d ∈ cs.take j,d.1≠e)/\Below w0.heap.size w0 wr) (fun i _=>nc-(intOf i).toNat)
 case atStart=>exact⟨0,by omega,rfl,R (by simp),aX⟩
 obtain⟨j,aJ,rfl,hall,k⟩:=hrel;have aU:=c9 aH k ay;by_cases a9:j < nc
 ·have a8:(j:Int) < (nc:Int):=by omega
  have a7:(0:Int)<=(j:Int):=by omega
  obtain⟨c,hc⟩:∃c,cs[j]? =D c:=⟨_,bb (by omega)⟩;obtain⟨b,g,hA,bf,_⟩:=K.out.2 (by omega);subst hA;obtain⟨aE,aF,aG,a4,a5⟩:=(K.out.below k).lK hc;have av:∀Z,(binOp .eql 42 (aq #[B o c.1.1, B o c.1.2.1, B o c.1.2.2.1, B o c.1.2.2.2]) (aq #[B o e.1, B o e.2.1, B o e.2.2.1, B o e.2.2.2])).run aj Z= .ok (aa (au (c.1=e))) Z:=fun Z=>by
   have h:=q2 c.1.1 c.1.2.1 c.1.2.2.1 c.1.2.2.2 e.1 e.2.1 e.2.2.1 e.2.2.2 Z;rw[yf] at h;exact h
  have k0:=c9 N k aK;have aA:=c9 ap k aK;have aD:=c9 ak k aK;have a0:=c9 aT k aK;have al:=R hc;clear hc;by_cases s:c.1=e
  ·rw[decide_eq_true s] at av
   have I:an=c.2:=by rw[am.out];exact zE al.out hall.out s
   have M:=R I;clear I s
   go_wp2_with fail
   have E:wr.drew.cell? ⟨w.heap.size,3,F⟩=D (O (D ⟨b,g,F⟩) nc cc)/\wr.drew.cell? ⟨b,g+j*5,F⟩=D (B o c.1.1)/\wr.drew.cell? ⟨b,g+j*5+1,F⟩=D (B o c.1.2.1)/\wr.drew.cell? ⟨b,g+j*5+2,F⟩=D (B o c.1.2.2.1)/\wr.drew.cell? ⟨b,g+j*5+3,F⟩=D (B o c.1.2.2.2)/\wr.drew.cell? ⟨b,g+j*5+4,F⟩=D (B o c.2)/\wr.drew.cell? ⟨w.heap.size+1,0,F⟩=D (B o e.1)/\wr.drew.cell? ⟨w.heap.size+1,1,F⟩=D (B o e.2.1)/\wr.drew.cell? ⟨w.heap.size+1,2,F⟩=D (B o e.2.2.1)/\wr.drew.cell? ⟨w.heap.size+1,3,F⟩=D (B o e.2.2.2)/\Below w0.heap.size w0 wr.drew:=⟨aU,aE,aF,aG,a4,a5,k0,aA,aD,a0,k.drew⟩
   go_region_held3 (fun Z=>Z.cell? ⟨w.heap.size,3,F⟩=D (O (D ⟨b,g,F⟩) nc cc)/\Z.cell? ⟨b,g+j*5,F⟩=D (B o c.1.1)/\Z.cell? ⟨b,g+j*5+1,F⟩=D (B o c.1.2.1)/\Z.cell? ⟨b,g+j*5+2,F⟩=D (B o c.1.2.2.1)/\Z.cell? ⟨b,g+j*5+3,F⟩=D (B o c.1.2.2.2)/\Z.cell? ⟨b,g+j*5+4,F⟩=D (B o c.2)/\Z.cell? ⟨w.heap.size+1,0,F⟩=D (B o e.1)/\Z.cell? ⟨w.heap.size+1,1,F⟩=D (B o e.2.1)/\Z.cell? ⟨w.heap.size+1,2,F⟩=D (B o e.2.2.1)/\Z.cell? ⟨w.heap.size+1,3,F⟩=D (B o e.2.2.2)/\Below w0.heap.size w0 Z)
    (first
     | with_reducible exact E
     | with_reducible assumption)
    (first
     | fail)
   rename_i z
   have V:Below w0.heap.size w0 _:=z.2.2.2.2.2.2.2.2.2.2;clear E z;go_wp2;go_ret;exact⟨ez M.out.symm,ax J V⟩
  rw[decide_eq_false s] at av;have ar:=oz (P:=fun d:bw=>d.1≠e) al.out hall.out s;have aL:=R ar;clear ar s
  go_wp2_with fail
  have E:wr.drew.cell? ⟨w.heap.size,3,F⟩=D (O (D ⟨b,g,F⟩) nc cc)/\wr.drew.cell? ⟨b,g+j*5,F⟩=D (B o c.1.1)/\wr.drew.cell? ⟨b,g+j*5+1,F⟩=D (B o c.1.2.1)/\wr.drew.cell? ⟨b,g+j*5+2,F⟩=D (B o c.1.2.2.1)/\wr.drew.cell? ⟨b,g+j*5+3,F⟩=D (B o c.1.2.2.2)/\wr.drew.cell? ⟨b,g+j*5+4,F⟩=D (B o c.2)/\wr.drew.cell? ⟨w.heap.size+1,0,F⟩=D (B o e.1)/\wr.drew.cell? ⟨w.heap.size+1,1,F⟩=D (B o e.2.1)/\wr.drew.cell? ⟨w.heap.size+1,2,F⟩=D (B o e.2.2.1)/\wr.drew.cell? ⟨w.heap.size+1,3,F⟩=D (B o e.2.2.2)/\Below w0.heap.size w0 wr.drew:=⟨aU,aE,aF,aG,a4,a5,k0,aA,aD,a0,k.drew⟩
  go_region_held3 (fun Z=>Z.cell? ⟨w.heap.size,3,F⟩=D (O (D ⟨b,g,F⟩) nc cc)/\Z.cell? ⟨b,g+j*5,F⟩=D (B o c.1.1)/\Z.cell? ⟨b,g+j*5+1,F⟩=D (B o c.1.2.1)/\Z.cell? ⟨b,g+j*5+2,F⟩=D (B o c.1.2.2.1)/\Z.cell? ⟨b,g+j*5+3,F⟩=D (B o c.1.2.2.2)/\Z.cell? ⟨b,g+j*5+4,F⟩=D (B o c.2)/\Z.cell? ⟨w.heap.size+1,0,F⟩=D (B o e.1)/\Z.cell? ⟨w.heap.size+1,1,F⟩=D (B o e.2.1)/\Z.cell? ⟨w.heap.size+1,2,F⟩=D (B o e.2.2.1)/\Z.cell? ⟨w.heap.size+1,3,F⟩=D (B o e.2.2.2)/\Below w0.heap.size w0 Z)
   (first
    | with_reducible exact E
    | with_reducible assumption)
   (first
    | fail)
  rename_i z
  have V:Below w0.heap.size w0 _:=z.2.2.2.2.2.2.2.2.2.2;clear E z;go_wp2;go_roundw
  case rel=>exact⟨j+1,by omega,by go_num,aL,V⟩
  case measure=>simp[intOf];omega
 obtain rfl:j=nc:=by omega
 have I:an=0:=by
  rw[am.out];refine zG ?_;have:=hall.out
  rwa [hU (by omega)] at this
 have M:=R I;clear I;go_wp2;go_ret;exact⟨ez M.out.symm,ax J k⟩
def dU(l:List ah)(t:ah):Int:=if t ∈ l then(l.idxOf t:Nat) else -1
theorem vb(h:l[j]? =D t)(hn:∀d ∈ l.take j,d≠t):dU l t=j:=by
 unfold dU;rw[if_pos (cH h)];have aJ:=(bM.1 h).1;have h1:l=l.take j++l.drop j:=(List.take_append_drop j l).symm;have ab:t ∉ l.take j:=fun ba=>hn t ba rfl;have ag:l.drop j=t::l.drop (j+1):=by
  rw[List.drop_eq_getElem_cons aJ];rw[bb aJ] at h;cases h
  rfl
 have az:l.idxOf t=(l.take j).length+(l.drop j).idxOf t:=by
  conv=>lhs;rw[h1]
  rw[List.idxOf_append,if_neg ab,Nat.add_comm]
 rw[az,ag,List.idxOf_cons_self,List.length_take];omega
theorem vc(hn:∀d ∈ l,d≠t):dU l t= -1:=by
 unfold dU;rw[if_neg (fun h=>hn t h rfl)]
theorem ot(a6:Nat)(A:Option cF)(c:Nat)(L:List ah)(t:ah)(w:ac)(aZ:w.ownsRow a6 53 3 (O A L.length c) L.length (bn L))(hL:L.length<=1000):
  Calls aj 30 #[O A L.length c,bK t] w fun r Z=>r= .returned (B o (dU L t))/\Below w.heap.size w Z:=by
 have af:=aQ w (Y #[B o t.1, B o t.2.1, B o t.2.2] 53);have J:Below w.heap.size w (w.alloc (Y #[B o t.1, B o t.2.1, B o t.2.2] 53)):=aV _ _;obtain⟨N,ap,ak⟩:=dl af;have aw:=bo aZ J;obtain⟨an,T⟩:=ai (dU L t);rw[<-T];obtain⟨K,am⟩:=aY aw T;clear aZ af aw T;go_in
 go_wp2_with fail
 generalize (w.alloc (Y #[B o t.1, B o t.2.1, B o t.2.2] 53))=w0 at N ap ak J K;have ay:w.heap.size < w0.heap.size:=iS _ _ N;go_loopw [5] (fun i wr=>∃j:Nat,j<=L.length/\i= B o j/\Hid (∀d ∈ L.take j,d≠t)/\Below w0.heap.size w0 wr) (fun i _=>L.length-(intOf i).toNat)
 case atStart=>exact⟨0,by omega,rfl,R (by simp),aX⟩
 obtain⟨j,aJ,rfl,hall,k⟩:=hrel;by_cases a9:j < L.length
 ·have a8:(j:Int) < (L.length:Int):=by omega
  have a7:(0:Int)<=(j:Int):=by omega
  obtain⟨u,aP⟩:∃u,L[j]? =D u:=⟨_,bb (by omega)⟩;obtain⟨y,be,bd,bc,_,_,_,_⟩:=dF K.out (by omega);cases bc
  obtain⟨aE,aF,aG⟩:=ey (bo K.out k) aP;have av:∀Z,(binOp .eql 53 (aq #[B o u.1, B o u.2.1, B o u.2.2]) (aq #[B o t.1, B o t.2.1, B o t.2.2])).run aj Z= .ok (aa (au (u=t))) Z:=fun Z=>by
   have h:=n5 u.1 u.2.1 u.2.2 t.1 t.2.1 t.2.2 Z;rw[jE] at h;exact h
  have k0:=c9 N k ay;have aA:=c9 ap k ay;have aD:=c9 ak k ay;have al:=R aP;clear aP;by_cases s:u=t
  ·rw[decide_eq_true s] at av
   have I:an=j:=by rw[am.out];exact vb (s▸al.out) hall.out
   have M:=R I;clear I s
   go_wp2_with fail
   have E:wr.drew.cell? ⟨y,j*3,F⟩=D (B o u.1)/\wr.drew.cell? ⟨y,j*3+1,F⟩=D (B o u.2.1)/\wr.drew.cell? ⟨y,j*3+2,F⟩=D (B o u.2.2)/\wr.drew.cell? ⟨w.heap.size,0,F⟩=D (B o t.1)/\wr.drew.cell? ⟨w.heap.size,1,F⟩=D (B o t.2.1)/\wr.drew.cell? ⟨w.heap.size,2,F⟩=D (B o t.2.2)/\Below w0.heap.size w0 wr.drew:=⟨aE,aF,aG,k0,aA,aD,k.drew⟩
   go_region_held3 (fun Z=>Z.cell? ⟨y,j*3,F⟩=D (B o u.1)/\Z.cell? ⟨y,j*3+1,F⟩=D (B o u.2.1)/\Z.cell? ⟨y,j*3+2,F⟩=D (B o u.2.2)/\Z.cell? ⟨w.heap.size,0,F⟩=D (B o t.1)/\Z.cell? ⟨w.heap.size,1,F⟩=D (B o t.2.1)/\Z.cell? ⟨w.heap.size,2,F⟩=D (B o t.2.2)/\Below w0.heap.size w0 Z)
    (first
     | with_reducible exact E
     | with_reducible assumption)
    (first
     | fail)
   rename_i z
   have V:Below w0.heap.size w0 _:=z.2.2.2.2.2.2;clear E z;go_wp2;go_ret;exact⟨ez M.out.symm,ax J V⟩
  rw[decide_eq_false s] at av;have ar:=oz (P:=fun d:ah=>d≠t) al.out hall.out s;have aL:=R ar;clear ar s
  go_wp2_with fail
  have E:wr.drew.cell? ⟨y,j*3,F⟩=D (B o u.1)/\wr.drew.cell? ⟨y,j*3+1,F⟩=D (B o u.2.1)/\wr.drew.cell? ⟨y,j*3+2,F⟩=D (B o u.2.2)/\wr.drew.cell? ⟨w.heap.size,0,F⟩=D (B o t.1)/\wr.drew.cell? ⟨w.heap.size,1,F⟩=D (B o t.2.1)/\wr.drew.cell? ⟨w.heap.size,2,F⟩=D (B o t.2.2)/\Below w0.heap.size w0 wr.drew:=⟨aE,aF,aG,k0,aA,aD,k.drew⟩
  go_region_held3 (fun Z=>Z.cell? ⟨y,j*3,F⟩=D (B o u.1)/\Z.cell? ⟨y,j*3+1,F⟩=D (B o u.2.1)/\Z.cell? ⟨y,j*3+2,F⟩=D (B o u.2.2)/\Z.cell? ⟨w.heap.size,0,F⟩=D (B o t.1)/\Z.cell? ⟨w.heap.size,1,F⟩=D (B o t.2.1)/\Z.cell? ⟨w.heap.size,2,F⟩=D (B o t.2.2)/\Below w0.heap.size w0 Z)
   (first
    | with_reducible exact E
    | with_reducible assumption)
   (first
    | fail)
  rename_i z
  have V:Below w0.heap.size w0 _:=z.2.2.2.2.2.2;clear E z;go_wp2;go_roundw
  case rel=>exact⟨j+1,by omega,by go_num,aL,V⟩
  case measure=>simp[intOf];omega
 obtain rfl:j=L.length:=by omega
 have I:an= -1:=by
  rw[am.out];refine vc ?_;have:=hall.out
  rwa [List.take_length] at this
 have M:=R I;clear I;go_wp2;go_ret;exact⟨ez M.out.symm,ax J k⟩
end
section
open Go.RowKit
structure jw(l:List ah)(c:aO->Bool)(bl:List Nat):Prop where
 len:bl.length=l.length
 le:∀i,i < l.length->bl.getD i 0<=i
 jT:∀i t,l[i]? =D t->∃u,l[bl.getD i 0]? =D u/\e5 l c t u
def oL(l:List ah)(c:aO->Bool)(bl:List Nat)(i k:Nat):Prop:=∀t j,l[i]? =D t->c (bk t k)=S->l[j]? =D (bE t k)->bl.getD i 0<=bl.getD j 0
structure f5(l:List ah)(c:aO->Bool)(g bl:List Nat)(y:Bool)(i k:Nat):Prop where
 inv:jw l c bl
 b6:(y=S/\bl.sum < g.sum)∨(y=Q/\bl=g/\∀b r,(b < i∨b=i/\r < k)->r < 3->oL l c bl b r)
theorem vJ:∀{l:List Nat} {i v:Nat},i < l.length->v < l.getD i 0->(l.set i v).sum < l.sum
 | a::l,0,v,_,h=>by simp at h |-;omega
 | a::l,i+1,v,al,h=>by
  have:=vJ (l:=l) (i:=i) (v:=v) (by simpa using al) (by simpa using h);simp;omega
theorem tB(l:List Nat)(i j v:Nat):(l.set i v).getD j 0=if i=j/\i < l.length then v else l.getD j 0:=by
 simp only[cf,List.getElem?_set];by_cases h:i=j
 ·subst h
  by_cases av:i < l.length
  iterate 2 (simp[av])
 ·simp[h]
theorem jw.start(l:List ah)(c:aO->Bool):jw l c (c4 l.length):=by
 have h:∀i,i < l.length->(c4 l.length).getD i 0=i:=by
  intro i al;simp[cf,al]
 refine⟨by simp,fun i al=>by rw[h i al];exact Nat.le_refl i,fun i t ht=> ?_⟩;rw[h i (bM.1 ht).1];exact⟨t,ht, .refl⟩
section
variable {l:List ah} {c:aO->Bool} {g bl:List Nat} {y:Bool} {i j k:Nat} {t:ah}
theorem f5.start(h:jw l c bl):f5 l c bl bl Q 0 0:=⟨h, .inr ⟨rfl,rfl,fun b r h=>by omega⟩⟩
theorem f5.skip(h:f5 l c g bl y i k)(hc:oL l c bl i k):f5 l c g bl y i (k+1):=by
 refine⟨h.inv,h.b6.imp id ?_⟩;rintro⟨h1,ab,ag⟩;refine⟨h1,ab,fun b r az G=> ?_⟩;by_cases M:b < i∨b=i/\r < k
 ·exact ag b r M G
 have N:b=i/\r=k:=by omega
 obtain⟨rfl,rfl⟩:=N;exact hc
theorem f5.row(h:f5 l c g bl y i 3):f5 l c g bl y (i+1) 0:=
 ⟨h.inv,h.b6.imp id fun⟨h1,ab,ag⟩=>⟨h1,ab,fun b r az G=>ag b r (by omega) G⟩⟩
theorem jw.set(h:jw l c bl)(ht:l[i]? =D t)(A:k < 3)(hc:c (bk t k)=S)(z:l[j]? =D (bE t k))(J:bl.getD j 0 < bl.getD i 0):jw l c (bl.set i (bl.getD j 0)):=by
 have al:=(bM.1 ht).1;have ai:i < bl.length:=by rw[h.len];exact al
 have af:=h.le i al;refine⟨by rw[List.length_set];exact h.len,fun m P=> ?_,fun m u s=> ?_⟩
 ·rw[tB]
  split
  ·rename_i e
   obtain⟨rfl,_⟩:=e;omega
  ·exact h.le m P
 rw[tB];split
 ·rename_i e
  obtain⟨rfl,_⟩:=e;rw[ht] at s;cases s
  obtain⟨v,T,R⟩:=h.jT j _ z;exact⟨v,T,(e5.step .refl A hc (cH z)).trans R⟩
 ·exact h.jT m u s
theorem f5.set(h:f5 l c g bl y i k)(ht:l[i]? =D t)(A:k < 3)(hc:c (bk t k)=S)(z:l[j]? =D (bE t k))(J:bl.getD j 0 < bl.getD i 0)(r:Nat):f5 l c g (bl.set i (bl.getD j 0)) S i r:=by
 have al:=(bM.1 ht).1;have K:=vJ (l:=bl) (i:=i) (v:=bl.getD j 0) (by rw[h.inv.len];exact al) J;refine⟨h.inv.set ht A hc z J, .inl ⟨rfl, ?_⟩⟩;rcases h.b6 with ⟨_,h1⟩ | ⟨_,rfl,_⟩ <;> omega
theorem f5.done(h:f5 l c g bl Q i 0)(al:l.length<=i)(av:∀t ∈ l,dN t):bl=g/\kc l c bl:=by
 rcases h.b6 with ⟨h1,_⟩ | ⟨_,ab,ag⟩
 ·cases h1
 refine⟨ab,h.inv.len,h.inv.le,h.inv.jT,fun b L t k E A hc I=> ?_⟩;have Z:=(bM.1 E).1;have ak:=(bM.1 I).1;have ao:=ag b k (by omega) A t L E hc I;have K:=mO (av t (cH E)) A;have a2:=ag L (gx k) (by omega) (ki k) (bE t k) b I (by rw[K.2];exact hc) (by rw[K.1];exact E);omega
theorem f5.more(h:f5 l c g bl S i k):jw l c bl/\bl.sum < g.sum:=by
 rcases h.b6 with ⟨_,h1⟩ | ⟨h1,_⟩
 ·exact⟨h.inv,h1⟩
 ·cases h1
theorem xh(ht:l[i]? =D t)(hc:c (bk t k)=Q∨bE t k ∉ l):oL l c bl i k:=by
 intro u j s h1 ab;rw[ht] at s;cases s
 rcases hc with hc | hc
 ·rw[hc] at h1
  cases h1
 ·exact absurd (cH ab) hc
theorem xg(hnd:l.Nodup)(ht:l[i]? =D t)(z:l[j]? =D (bE t k))(V:¬bl.getD j 0 < bl.getD i 0):oL l c bl i k:=by
 intro u m s h1 ab;rw[ht] at s;cases s
 have:j=m:=(List.getElem?_inj (bM.1 z).1 hnd).1 (z.trans ab.symm);subst this;omega
end
end
section
section
open Go.RowKit
def nz(b:Nat->Nat)(i n:Nat):Nat->Nat:=fun j=>bif f4 j i then n else b j
theorem p6(s:Nat->Nat)(i v:Nat):nz s i v i=v:=by simp[nz]
theorem nA{s:Nat->Nat}{i j v:Nat}(h:j≠i):nz s i v j=s j:=by
 have:f4 j i=Q:=m7.2 h;simp[nz,this]
def An(l:List Nat)(i:Nat):Nat:=l.getD i 0
structure hX where
 c6:Nat
 b6:Nat
 d:Nat
 z:Obj
 f:ae->Obj
def dr(n:Nat)(L:Array Bool)(i:Nat):Bool:=nL n i || L.getD i Q
theorem zk{n:Nat}{L:Array Bool}{i:Nat}(al:i < n)(h:dr n L i=S):L.getD i Q=S:=by
 have:nL n i=Q:=by
  cases A:nL n i
  ·rfl
  ·exact absurd (qu A) (by omega)
 simpa[dr,this] using h
theorem i7{n:Nat}{L:Array Bool}{i:Nat}(h:L.getD i Q=S):dr n L i=S:=by simp only[dr,h,Bool.or_true]
theorem ev{n:Nat}{L:Array Bool}{i j:Nat}(h:dr n (L.setIfInBounds i S) j=S)(aA:j≠i):dr n L j=S:=by
 unfold dr at*
 rwa [getD_set_ne Q (Ne.symm aA)] at h
theorem i6{n:Nat}{L:Array Bool}{i j:Nat}(h:dr n L j=S):dr n (L.setIfInBounds i S) j=S:=by
 unfold dr at*;rcases Bool.or_eq_true _ _▸h with h | h
 ·rw[h,Bool.true_or]
 ·rw[ix h,Bool.or_true]
theorem hE{n:Nat}{L:Array Bool}{i:Nat}(al:i < n)(h:L.getD i S=Q):dr n L i=Q:=by
 cases hc:dr n L i
 ·rfl
 have h1:=zk al hc;simp only[Array.getD] at h h1
 split at h1 <;> simp_all
def sx(M:ae->ac->Prop)(v:ae)(w:ac)(N:Nat->Prop):Prop:=∀Z:ac,w.heap.size<=Z.heap.size->(∀k,N k->Z.heap[k]? =w.heap[k]?)->M v Z
structure cI(n G:Nat)(c:ac)(K:List (Option ae))(J:List (Option (ae->ac->Prop)))(a:List hX)(L:Array Bool)(s:Nat->ae)(b:Nat->Nat)(w:ac):Prop where
 aL:L.size=n
 bel:Below G c w
 aK:G<=w.heap.size
 val:∀i v,K[i]? =D (D v)->dr n L i=S->s i=v
 mem:∀i M,J[i]? =D (D M)->dr n L i=S->∃N:Nat->Prop,(∀k,N k->k < w.heap.size)/\sx M (s i) w N/\∀q ∈ a,dr n L q.c6=S->¬N (b q.c6)
 box:∀q ∈ a,dr n L q.c6=S->s q.c6= ad (D ⟨b q.c6,0,F⟩)/\G<=b q.c6/\b q.c6 < w.heap.size/\(dr n L q.b6=Q->w.heap[b q.c6]? =D q.z)/\(dr n L q.b6=S->dr n L q.d=S/\w.heap[b q.c6]? =D (q.f (s q.d)))
 n1:∀q ∈ a,dr n L q.b6=S->dr n L q.c6=S
 n2:∀q ∈ a,∀cM ∈ a,dr n L q.c6=S->dr n L cM.c6=S->q.c6≠cM.c6->b q.c6≠b cM.c6
section
variable {n G:Nat} {c:ac} {K:List (Option ae)} {J:List (Option (ae->ac->Prop))} {a:List hX} {L:Array Bool} {s:Nat->ae} {b:Nat->Nat} {w Z:ac}
theorem cI.v(h:cI n G c K J a L s b w){i:Nat}{v:ae}(hL:L.getD i Q=S)(V:K[i]? =D (D v)):s i=v:=h.val i v V (i7 hL)
theorem cI.m(h:cI n G c K J a L s b w){i:Nat}{M:ae->ac->Prop}(hL:L.getD i Q=S)(V:J[i]? =D (D M)):M (s i) w:=by
 obtain⟨N,_,ab,_⟩:=h.mem i M V (i7 hL);exact ab w ce (fun _ _=>rfl)
theorem cI.below(h:cI n G c K J a L s b w)(A:Below w.heap.size w Z):cI n G c K J a L s b Z:=by
 refine⟨h.aL,h.bel.trans (A.mono h.aK),ec h.aK A.size,h.val, ?_, ?_,h.n1,h.n2⟩
 ·intro i M hF hL
  obtain⟨N,h1,ab,ag⟩:=h.mem i M hF hL;refine⟨N,fun k R=>ju (h1 k R) A.size, ?_,ag⟩;intro aP aC R;exact ab aP (ec A.size aC) (fun k ai=>(R k ai).trans (A.block k (h1 k ai)))
 intro q E hL;obtain⟨h1,ab,ag,az,ar⟩:=h.box q E hL;exact⟨h1,ab,ju ag A.size,fun hn=>(A.block _ ag).trans (az hn),fun ao=>⟨(ar ao).1,(A.block _ ag).trans (ar ao).2⟩⟩
def pz(a:List hX)(i:Nat):Bool:=a.all fun q=> !(f4 q.c6 i) && !(f4 q.b6 i)
theorem m9{i:Nat}(h:pz a i=S){q:hX}(E:q ∈ a):q.c6≠i/\q.b6≠i:=by
 have:=dM.1 h q E;simp only[cu,lj,m7] at this;exact this
theorem cI.put(h:cI n G c K J a L s b w){i:Nat}{v:ae}(T:dr n L i=Q)(A:pz a i=S)
  (V:∀a8,K[i]? =D (D a8)->v=a8)
  (an:∀M,J[i]? =D (D M)->∃N:Nat->Prop,(∀k,N k->k < w.heap.size)/\sx M v w N/\∀q ∈ a,dr n L q.c6=S->¬N (b q.c6)):
  cI n G c K J a (L.setIfInBounds i S) (bO s i v) b w:=by
 have aA:∀{j},dr n L j=S->j≠i:=fun I e=>by rw[e,T] at I;cases I
 refine⟨by simpa using h.aL,h.bel,h.aK, ?_, ?_, ?_, ?_, ?_⟩
 ·intro j a8 I hL
  by_cases e:j=i
  ·subst e
   rw[mm];exact V a8 I
  rw[g9 e];exact h.val j a8 I (ev hL e)
 ·intro j M I hL
  by_cases e:j=i
  ·subst e
   rw[mm];obtain⟨N,h1,ab,ag⟩:=an M I;exact⟨N,h1,ab,fun q E aw=>ag q E (ev aw (m9 A E).1)⟩
  rw[g9 e];obtain⟨N,h1,ab,ag⟩:=h.mem j M I (ev hL e);exact⟨N,h1,ab,fun q E aw=>ag q E (ev aw (m9 A E).1)⟩
 ·intro q E hL
  obtain⟨a7,bj⟩:=m9 A E;obtain⟨h1,ab,ag,az,ar⟩:=h.box q E (ev hL a7);refine⟨by rw[g9 a7];exact h1,ab,ag,fun hn=>az ?_,fun ao=> ?_⟩
  ·cases hc:dr n L q.b6
   ·rfl
   ·rw[i6 hc] at hn;cases hn
  obtain⟨ay,aH⟩:=ar (ev ao bj);exact⟨i6 ay,by rw[g9 (aA ay)];exact aH⟩
 ·exact fun q E hL=>i6 (h.n1 q E (ev hL (m9 A E).2))
 ·exact fun q E cM y h1 ab ag=>h.n2 q E cM y (ev h1 (m9 A E).1) (ev ab (m9 A y).1) ag
theorem cI.iq(h:cI n G c K J a L s b w){i:Nat}{v:ae}(T:dr n L i=Q)(A:pz a i=S)
  (V:K[i]? =D (D v)) (an:J[i]? =D F):cI n G c K J a (L.setIfInBounds i S) (bO s i v) b w:=
 h.put T A (fun a8 aE=>by rw[V] at aE;exact cn (cn aE)) (fun M hF=>by rw[an] at hF;cases hF)
theorem cI.w9(h:cI n G c K J a L s b w){i:Nat}{v:ae}(aU:Below w.heap.size w Z)(T:dr n L i=Q)(A:pz a i=S)
  (V:K[i]? =D (D v)) (an:J[i]? =D F):cI n G c K J a (L.setIfInBounds i S) (bO s i v) b Z:=
 (h.below aU).iq T A V an
theorem cI.new(h:cI n G c K J a L s b w){i:Nat}{af:Obj}(T:dr n L i=Q)
  (E:(a.all fun q=> !(f4 q.b6 i))=S) (aI:∀q ∈ a,q.c6=i->q.z=af) (V:K[i]? =D F) (an:J[i]? =D F):
  cI n G c K J a (L.setIfInBounds i S) (bO s i (ad (D ⟨w.heap.size,0,F⟩))) (nz b i w.heap.size) (w.alloc af):=by
 have h0:=h.below (aV w af);have aA:∀{j},dr n L j=S->j≠i:=fun I e=>by rw[e,T] at I;cases I
 have hst:∀{q:hX},q ∈ a->q.b6≠i:=fun y=>by have:=dM.1 E _ y;simpa only[lj,m7] using this
 refine⟨by simpa using h.aL,h0.bel,h0.aK, ?_, ?_, ?_, ?_, ?_⟩
 ·intro j a8 I hL
  by_cases e:j=i
  ·subst e
   rw[V] at I;cases I
  rw[g9 e];exact h.val j a8 I (ev hL e)
 ·intro j M I hL
  by_cases e:j=i
  ·subst e
   rw[an] at I;cases I
  rw[g9 e];obtain⟨N,h1,ab,ag⟩:=h.mem j M I (ev hL e);obtain⟨bn,bo,bp,bs⟩:=h0.mem j M I (ev hL e);refine⟨N,fun k R=>ju (h1 k R) (aV w af).size, ?_, ?_⟩
  ·intro aP aC R
   exact ab aP (ec (aV w af).size aC) (fun k ai=>(R k ai).trans ((aV w af).block k (h1 k ai)))
  intro q y aR;by_cases ak:q.c6=i
  ·rw[ak,p6]
   intro ai;exact absurd (h1 _ ai) (Nat.lt_irrefl _)
  rw[nA ak];exact ag q y (ev aR ak)
 ·intro q y hL
  by_cases ak:q.c6=i
  ·have bh:=aI q y ak
   rw[ak,mm,p6];have be:dr n L q.b6=Q:=by
    cases hc:dr n L q.b6
    ·rfl
    have:=h.n1 q y hc;rw[ak,T] at this;cases this
   refine⟨rfl,h.aK,by simp,fun _=>by rw[bh];exact aQ w af,fun ao=> ?_⟩;have:=ev ao (hst y);rw[be] at this;cases this
  rw[g9 ak,nA ak];obtain⟨h1,ab,ag,az,ar⟩:=h0.box q y (ev hL ak);refine⟨h1,ab,ag,fun hn=>az ?_,fun ao=> ?_⟩
  ·cases hc:dr n L q.b6
   ·rfl
   ·rw[i6 hc] at hn;cases hn
  obtain⟨ay,aH⟩:=ar (ev ao (hst y));exact⟨i6 ay,by rw[g9 (aA ay)];exact aH⟩
 ·exact fun q y hL=>i6 (h.n1 q y (ev hL (hst y)))
 intro q aw cM aN aW aY a3;by_cases ap:q.c6=i
 ·have ak:cM.c6≠i:=fun e=>a3 (ap.trans e.symm)
  rw[ap,p6,nA ak];have:=(h.box cM aN (ev aY ak)).2.2.1;omega
 by_cases ak:cM.c6=i
 ·rw[ak,p6,nA ap]
  have:=(h.box q aw (ev aW ap)).2.2.1;omega
 rw[nA ap,nA ak];exact h.n2 q aw cM aN (ev aW ap) (ev aY ak) a3
theorem cI.set(h:cI n G c K J a L s b w){i:Nat}{q:hX}{v:ae}(E:q ∈ a)(T:dr n L i=Q)(hst:q.b6=i)(aT:dr n L q.c6=S)(a0:dr n L q.d=S)
  (hall:(a.all fun cM=> !(f4 cM.c6 i) && (f4 cM.c6 q.c6 || !(f4 cM.b6 i)))=S) (a4:∀cM ∈ a,cM.c6=q.c6->cM=q)
  (V:K[i]? =D F) (an:J[i]? =D F)
  (aU:Below G c Z) (aC:Z.heap.size=w.heap.size) (a1:∀k,k≠b q.c6->Z.heap[k]? =w.heap[k]?) (hf:Z.heap[b q.c6]? =D (q.f (s q.d))):
  cI n G c K J a (L.setIfInBounds i S) (bO s i v) b Z:=by
 have aA:∀{j},dr n L j=S->j≠i:=fun I e=>by rw[e,T] at I;cases I
 have aJ:∀{cM:hX},cM ∈ a->cM.c6≠i:=fun y=>by have:=dM.1 hall _ y;simp only[cu,lj,m7] at this;exact this.1
 have a5:∀{cM:hX},cM ∈ a->cM.c6≠q.c6->cM.b6≠i:=fun y hn=>by have:=dM.1 hall _ y;simp only[cu,Bool.or_eq_true,lj,m7,Nat.beq_eq] at this;exact this.2.resolve_left hn
 refine⟨by simpa using h.aL,aU,by rw[aC];exact h.aK, ?_, ?_, ?_, ?_, ?_⟩
 ·intro j a8 I hL
  by_cases e:j=i
  ·subst e
   rw[V] at I;cases I
  rw[g9 e];exact h.val j a8 I (ev hL e)
 ·intro j M I hL
  by_cases e:j=i
  ·subst e
   rw[an] at I;cases I
  rw[g9 e];obtain⟨N,h1,ab,ag⟩:=h.mem j M I (ev hL e);refine⟨N,fun k R=>by rw[aC];exact h1 k R, ?_,fun cM y aR=>ag cM y (ev aR (aJ y))⟩;intro aP bt R;refine ab aP (by omega) (fun k ai=>(R k ai).trans (a1 k ?_));intro ba;subst ba;exact ag q E aT ai
 ·intro cM y hL
  have aS:=ev hL (aJ y);rw[g9 (aJ y)];by_cases e:cM.c6=q.c6
  ·obtain rfl:=a4 cM y e
   obtain⟨h1,ab,ag,az,ar⟩:=h.box cM y aS;refine⟨h1,ab,by rw[aC];exact ag,fun hn=> ?_,fun _=>⟨i6 a0,by rw[g9 (aA a0)];exact hf⟩⟩;rw[hst] at hn;unfold dr at hn T;cases A:nL n i
   ·rw[A,Bool.false_or] at hn
    rw[A,Bool.false_or] at T;have bd:i < L.size:=by
     rw[h.aL];exact Nat.lt_of_not_le (fun hc=>by rw[Nat.ble_eq_true_of_le hc] at A;cases A)
    simp[bd] at hn
   ·rw[A] at T;cases T
  obtain⟨h1,ab,ag,az,ar⟩:=h.box cM y aS;have a2:=a1 (b cM.c6) (h.n2 cM y q E aS aT e);refine⟨h1,ab,by rw[aC];exact ag,fun hn=> ?_,fun ao=> ?_⟩
  ·rw[a2]
   refine az ?_;cases hc:dr n L cM.b6
   ·rfl
   ·rw[i6 hc] at hn;cases hn
  obtain⟨ay,aH⟩:=ar (ev ao (a5 y e));exact⟨i6 ay,by rw[a2,g9 (aA ay)];exact aH⟩
 ·intro cM y hL
  by_cases e:cM.c6=q.c6
  ·obtain rfl:=a4 cM y e
   exact i6 aT
  ·exact i6 (h.n1 cM y (ev hL (a5 y e)))
 ·exact fun aZ aw bm aN h1 ab ag=>h.n2 aZ aw bm aN (ev h1 (aJ aw)) (ev ab (aJ aN)) ag
theorem cI.cg(h:cI n G c K J a L s b w){q:hX}(E:q ∈ a)(hL:dr n L q.c6=S):s q.c6= ad (D ⟨b q.c6,0,F⟩)/\G<=b q.c6:=⟨(h.box q E hL).1,(h.box q E hL).2.1⟩
theorem cI.fresh(h:cI n G c K J a L s b w){q:hX}(E:q ∈ a)(hL:dr n L q.c6=S)(hn:dr n L q.b6=Q):w.heap[b q.c6]? =D q.z:=(h.box q E hL).2.2.2.1 hn
theorem cI.full(h:cI n G c K J a L s b w){q:hX}(E:q ∈ a)(hL:dr n L q.c6=S)(hn:dr n L q.b6=S):w.heap[b q.c6]? =D (q.f (s q.d)):=((h.box q E hL).2.2.2.2 hn).2
end
theorem B6{n G:Nat}{c:ac}{K:List (Option ae)}{J:List (Option (ae->ac->Prop))}{a:List hX}{s:Nat->ae}{b:Nat->Nat}(aK:G<=c.heap.size)
  (V:K.length<=n) (an:J.length<=n) (A:(a.all fun q=>Nat.blt q.c6 n && Nat.blt q.b6 n)=S):
  cI n G c K J a (eA n Q) s b c.drew:=by
 have aM:∀{i},i < n->dr n (eA n Q) i=Q:=by
  intro i al;have:nL n i=Q:=by
   cases A:nL n i
   ·rfl
   ·exact absurd (qu A) (by omega)
  simp[dr,this,al]
 have E:∀{q:hX},q ∈ a->q.c6 < n/\q.b6 < n:=by
  intro q E;have:=dM.1 A q E;rw[cu] at this;exact⟨qu this.1,qu this.2⟩
 refine⟨by simp,aX.drew,aK, ?_, ?_, ?_, ?_, ?_⟩
 ·intro i v al hL
  have:=(bM.1 al).1;rw[aM (by omega)] at hL;cases hL
 ·intro i v al hL
  have:=(bM.1 al).1;rw[aM (by omega)] at hL;cases hL
 ·intro q y hL
  rw[aM (E y).1] at hL;cases hL
 ·intro q y hL
  rw[aM (E y).2] at hL;cases hL
 intro q y cM _ hL;rw[aM (E y).1] at hL;cases hL
theorem cI.dt{n G:Nat}{c:ac}{K:List (Option ae)}{J:List (Option (ae->ac->Prop))}{a:List hX}{L:Array Bool}{s:Nat->ae}{b:Nat->Nat}{w:ac}(h:cI n G c K J a L s b w){j:Nat}{v:ae}(e:s j=v):cI n G c K J a L (bO s j v) b w:=by
 have:bO s j v=s:=by
  funext k
  by_cases R:k=j
  ·subst R
   rw[mm,e]
  ·rw[g9 R]
 rw[this];exact h
def ld:ac->Nat->Nat->List ae->ac
 | w,_,_, []=>w
 | w,g,i,v::r=>ld (w.setCell ⟨g,i,F⟩ v) g (i+1) r
theorem Cl(w:ac)(g i:Nat)(bx:List ae):(ld w g i bx).heap.size=w.heap.size:=by
 induction bx generalizing w i with
 | nil=>rfl
 | cons v r aF=>rw[ld,aF,World.size_setCell]
theorem Ch{G g:Nat}{w:ac}(h:G<=g)(i:Nat)(bx:List ae):Below G w (ld w g i bx):=by
 induction bx generalizing w i with
 | nil=>exact aX
 | cons v r aF=>exact((Below.refl G w).setCell h v).trans (aF (i+1))
theorem Cj{g k:Nat}{w:ac}(h:k≠g)(i:Nat)(bx:List ae):(ld w g i bx).heap[k]? =w.heap[k]? :=by
 induction bx generalizing w i with
 | nil=>rfl
 | cons v r aF=>exact(aF (i+1)).trans (Below.heap_setCell w ⟨g,i,F⟩ v k h)
theorem Ck{g:Nat}{t:TypeId}:∀(bx:List ae) (w:ac) (aD rest:List ae),rest.length=bx.length->w.heap[g]? =D (Y (aD++rest).toArray t (0,0))->
  (ld w g aD.length bx).heap[g]? =D (Y (aD++bx).toArray t (0,0)):=by
 intro bx
 induction bx with
 | nil=>
  intro w aD rest av h;have:rest= []:=List.length_eq_zero_iff.1 av;subst this;exact h
 | cons v r aF=>
  intro w aD rest av h
  cases rest with
  | nil=>simp at av
  | cons x rest=>
   have h1:=bq h aD.length v;have ab:=aF (w.setCell ⟨g,aD.length,F⟩ v) (aD++ [v]) rest (by simpa using av) (by
    rw[h1];simp)
   simp only[gL,List.length_cons,List.length_nil,nI,List.cons_append,List.nil_append] at ab;exact ab
theorem Ci{g:Nat}{t:TypeId}{w:ac}{cs:Array ae}{bx:List ae}(h:w.heap[g]? =D (.cells cs t (0,0)))(av:cs.size=bx.length):(ld w g 0 bx).heap[g]? =D (.cells bx.toArray t (0,0)):=by
 have:=Ck (g:=g) (t:=t) bx w [] cs.toList (by simpa using av) (by simpa using h);simpa using this
end
section
open Go.RowKit Go.Maps
def di(bl:List Nat):List ae:=bl.map fun(z:Nat)=> B o ((z:Nat):Int)
theorem v8(bl:List Nat):(di bl).length=bl.length:=by simp[di]
theorem p7{bl:List Nat}{i:Nat}(al:i < bl.length):(di bl)[i]? =D (B o ((bl.getD i 0:Nat):Int)):=by
 simp[di,al,cf]
theorem r6(bl:List Nat)(i v:Nat):(di bl).toArray.setIfInBounds i (B o (v:Int))=(di (bl.set i v)).toArray:=by
 simp[di,List.map_set]
def fr(a9:Bool)(cs:List bw)(e:aO):Bool:=a9 || au (ea cs e=0)
structure gr(c:ac)(d8:Nat)(bl:List Nat)(wr:ac):Prop where
 bel:Below c.heap.size c wr
 row:wr.heap[d8]? =D (Y (di bl).toArray 3 (0,0))
 ge:c.heap.size<=d8
section
variable {c wr Z:ac} {d8:Nat} {bl:List Nat}
theorem gr.below(h:gr c d8 bl wr)(A:Below wr.heap.size wr Z):gr c d8 bl Z:=⟨ax h.bel A,aG h.row A (am h.row),h.ge⟩
theorem gr.at_(h:gr c d8 bl wr){i:Nat}(al:i < bl.length):wr.cell? ⟨d8,i,F⟩=D (B o ((bl.getD i 0:Nat):Int)):=by
 rw[aB h.row i,cP];exact p7 al
theorem gr.eu(h:gr c d8 bl wr)(i:Nat):wr.frozen? ⟨d8,i,F⟩=Q:=br h.row i
theorem gr.set(h:gr c d8 bl wr)(i v:Nat):gr c d8 (bl.set i v) (wr.setCell ⟨d8,i,F⟩ (B o (v:Int))):=
 ⟨h.bel.setCell (p:=⟨d8,i,F⟩) h.ge _,by rw[bq h.row,r6],h.ge⟩
end
def rW(wr:ac)(d8:Nat):Nat:=match wr.heap[d8]? with
 | some (.cells cs _ _)=>(cs.toList.map fun v=>(intOf v).toNat).sum
 | _=>0
theorem vI{c wr:ac}{d8:Nat}{bl:List Nat}(h:gr c d8 bl wr):rW wr d8=bl.sum:=by
 unfold rW;rw[h.row];simp only[di,List.map_map]
 congr 1
 have:((fun v=>(intOf v).toNat) ∘ fun z:Nat=>Value.int o (z:Int))=id:=by funext z;rfl
 rw[this,List.map_id]
def iL(n j:Nat):List Nat:=(c4 n).map fun i=>if i < j then i else 0
theorem yr(n:Nat):iL n 0=f0 n 0:=by
 unfold iL;apply sn
 intro i;by_cases h:i < n <;> simp[h]
theorem yo(n:Nat):iL n n=c4 n:=by
 unfold iL;apply sn
 intro i;by_cases h:i < n <;> simp[h]
theorem yq(n j:Nat):(iL n j).set j j=iL n (j+1):=by
 unfold iL;apply sn
 intro i;rw[List.getElem?_set];by_cases h:j=i
 ·subst h
  by_cases hn:j < n
  iterate 2 (simp[hn])
 rw[if_neg h];by_cases hn:i < n
 ·simp only[List.getElem?_map,List.getElem?_range hn,Option.map_some]
  congr 1
  by_cases ab:i < j
  ·rw[if_pos ab,if_pos (by omega)]
  ·rw[if_neg ab,if_neg (by omega)]
 ·simp[hn]
theorem yp(n j:Nat):(iL n j).length=n:=by simp[iL]
theorem wb(n:Nat):(bF (f0 n 0)).toArray=eA n (B o 0):=by simp[bF]
theorem ui(n:Nat)(hn:n<=1000)(w:ac):(Instr.makeSlice 22 (B o (n:Int)) (B o (n:Int))).run aj w= .ok (O (D ⟨w.heap.size,0,F⟩) n n) (w.alloc (Y (eA n (B o 0)) 3)):=by
 rw[<-wb];obtain⟨bi,al,bf,a6,bg⟩:=info_parts mT;have:=run_makeSlice (P:=aj) w 22 3 bi (B o 0) Tryz.underlying22 al bf o o n n (by omega) (Int.le_refl _) (by rw[a6];simp;omega) (by rw[bg];omega) (by omega);rw[this,a6];have e:madeCells #[Value.int o 0] n=(bF (f0 n 0)).toArray:=by
  apply Array.toList_inj.1
  rw[toList_madeCells_one];simp[bF]
 simp[Value.cells,e]
theorem Dw(n:Nat):bF (f0 n 0)=di (iL n 0):=by
 rw[yr];simp[bF,di]
def hk(w:ac)(ge:Nat)(t:ah):Prop:=w.heap[ge]? =D (Y #[B o (bk t 0).1, B o (bk t 0).2.1, B o (bk t 0).2.2.1, B o (bk t 0).2.2.2, B o (bk t 1).1, B o (bk t 1).2.1, B o (bk t 1).2.2.1, B o (bk t 1).2.2.2, B o (bk t 2).1, B o (bk t 2).2.1, B o (bk t 2).2.2.1, B o (bk t 2).2.2.2] 42 (0,0))
theorem hk.at_{w:ac}{ge k:Nat}{t:ah}(h:hk w ge t)(R:k < 3):w.cell? ⟨ge,k*4,F⟩=D (B o (bk t k).1)/\w.cell? ⟨ge,k*4+1,F⟩=D (B o (bk t k).2.1)/\w.cell? ⟨ge,k*4+2,F⟩=D (B o (bk t k).2.2.1)/\w.cell? ⟨ge,k*4+3,F⟩=D (B o (bk t k).2.2.2):=by
 have aE:w.heap[ge]? =_:=h;rcases e7 R with rfl | rfl | rfl <;> exact⟨(aB aE _).trans rfl,(aB aE _).trans rfl,(aB aE _).trans rfl,(aB aE _).trans rfl⟩
theorem hk.below{w Z:ac}{ge:Nat}{t:ah}(h:hk w ge t)(A:Below w.heap.size w Z):hk Z ge t:=aG h A (am h)
theorem hk.set{c w:ac}{ge d8:Nat}{t:ah}{bl:List Nat}(h:hk w ge t)(bc:gr c d8 bl w)(i:Nat)(v:ae):hk (w.setCell ⟨d8,i,F⟩ v) ge t:=by
 refine eV (p:=⟨d8,i,F⟩) h ?_ v;intro e;subst e;have h1:=bc.row;have ab:w.heap[ge]? =_:=h;rw[ab] at h1;simp at h1
end
end
section
open Go.RowKit Go.Maps
def n7(aU:aO->Option Int)(e:aO):Bool:=au ((aU e).getD 0=0)
theorem gw.iI{t:ah}(h:gw t){i:Nat}(al:i < 3):e8.ok (bk t i):=by
 obtain⟨h1,ab,ag⟩:=h;obtain⟨x,y,e⟩:=iM ag;show bj _/\bj _/\bj _/\bj _
 unfold bj;rcases e7 al with rfl | rfl | rfl <;> rcases e with rfl | rfl | rfl | rfl <;> simp[lM,lN,lO,iF,iG,iH,lP,lQ,lR,lS,lT,lU] at h1 ab |- <;> omega
structure iZ(w:ac)(a:Nat)(v:ae)(dq:List (List ah))(bx:List ae):Prop where
 own:w.ownsRow a 54 1 v dq.length bx
 len:bx.length=dq.length
 row:∀(j:Nat) (f:List ah),dq[j]? =D f->∃k,bx[j]? =D k/\w.ownsRow a 53 3 k f.length (bn f)
section
variable {w Z:ac} {a:Nat} {v a8:ae} {dq:List (List ah)} {bx:List ae}
theorem iZ.nil(w:ac)(a:Nat):iZ w a (O F 0 0) [] []:=⟨gl _ _ _ _,rfl,fun j f h=>by simp at h⟩
theorem iZ.below(h:iZ w a v dq bx)(I:Below w.heap.size w Z):iZ Z a v dq bx:=
 ⟨bo h.own I,h.len,fun j f hf=>by
  obtain⟨k,h1,ab⟩:=h.row j f hf;exact⟨k,h1,bo ab I⟩⟩
theorem l6{w:ac}{b1 aC:Nat}{ap ak:TypeId}{an ao ai am:Nat}{v1 v2:ae}{ar av:List ae}(h1:w.ownsRow b1 ap an v1 ai ar)(ab:w.ownsRow aC ak ao v2 am av)(V:ap≠ak):v1.ownBlock=F∨v1.ownBlock≠v2.ownBlock:=by
 cases E:v1.ownBlock with
 | none=>exact .inl rfl
 | some g=>
  right
  intro e;obtain⟨c1,P⟩:=im h1 g E;obtain⟨c2,A⟩:=im ab g e.symm;rw[P] at A;simp at A;exact V A.2
theorem iZ.sC(h:iZ w a v dq bx){f:List ah}{z:ae}(hf:w.ownsRow a 53 3 z f.length (bn f))(af:Z.ownsRow a 54 1 a8 (dq.length+1) (bx++ [z]))(r:fm w Z v a8):iZ Z a a8 (dq++ [f]) (bx++ [z]):=by
 refine⟨by rw[gL];exact af,by simp[h.len],fun j x l=> ?_⟩;have J:(53:TypeId)≠54:=by decide
 by_cases K:j < dq.length
 ·rw[hS K] at l
  obtain⟨k,h1,ab⟩:=h.row j x l;refine⟨k, ?_,l7 ab r (l6 ab h.own J)⟩;rw[hS (by rw[h.len];exact K)];exact h1
 have R:j=dq.length:=by
  have:=(bM.1 l).1;simp at this;omega
 subst R;simp at l;subst l;refine⟨z, ?_,l7 hf r (l6 hf h.own J)⟩;rw[<-h.len];simp
theorem iZ.grown(h:iZ w a v dq bx){row:Option Nat}(r:w.grownBy Z row)(T:∀b,row=D b->∃N c,w.heap[b]? =D (.map N c)):iZ Z a v dq bx:=by
 have key:∀{e:TypeId} {s n:Nat} {u:ae} {G:List ae},w.ownsRow a e s u n G->Z.ownsRow a e s u n G:=by
  intro e s n u G L;refine qh L r ?_;cases E:u.ownBlock with
  | none=>exact .inl rfl
  | some g=>
   right
   intro M;exact eN L (T g M.symm) E
 exact⟨key h.own,h.len,fun j f hf=>by
  obtain⟨k,h1,ab⟩:=h.row j f hf;exact⟨k,h1,key ab⟩⟩
end
end
end Go.Proofs.YteaeipgfjmnecaaGreatDoor

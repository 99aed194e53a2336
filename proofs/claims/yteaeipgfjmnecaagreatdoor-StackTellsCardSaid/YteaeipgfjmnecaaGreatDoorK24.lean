/- Lemmas; each says its own conditions. -/
import Derived.Test.YteaeipgfjmnecaaGreatDoorK19
import Derived.Test.YteaeipgfjmnecaaGreatDoorK23
import Derived.ProofKit
import Derived.OpenShut
import Derived.Lib.SmallJoins
import Derived.SizedLaws
import Derived.Test.YteaeipgfjmnecaaGreatDoorRows
import Derived.LaidMore
import Derived.Deep.Fields23
import Derived.Stop.Joined
open And renaming intro->a7
open Bool renaming false->Q,not_not->qb,or_eq_false_iff->r9,true->S
open Classical renaming axiomOfChoice->sa
open Decidable renaming decide->au
open Go renaming Addr->cF,Value->ae,World->ac,heap_alloc_new->aQ,undef->U
open Go.Act renaming put->a6
open Go.DataW renaming trod->hd,trod_int->sb,trod_slice->sc,trod_struct->lm,weights->oB,weights_mem_each->nE
open Go.Value renaming int->qf
open Go.World renaming block_lt_of_cell?->iS,cell?_spot->sh,cells?_some->si
open Go.IntKind renaming i64->o
open List renaming drop_succ_cons->lq,drop_zero->lr,flatMap_cons->mx,getElem?_append_left->hS,getElem?_append_right->kK,getElem?_cons_succ->cO,getElem?_cons_zero->cU,getElem?_eq_getElem->bb,getElem?_eq_some_iff->bM,getElem?_map->jr,getElem?_of_mem->fz,getElem_cons_succ->ls,getElem_cons_zero->lu,getElem_toArray->lv,length_eq_zero_iff->gm,range->c4,setIfInBounds_toArray->bd,set_cons_succ->ba,set_cons_zero->bc,take_of_length_le->hU,take_succ_cons->ly,take_zero->kL
open List.cons renaming injEq->oF
open Nat renaming add_mul->qt
open Go.Obj renaming cells->Y
open Option renaming bind_eq_some_iff->ss,none->F,some->D
open Option.some renaming inj->cn
open Go.Proofs.Tryz renaming prog->aj
open Go.Value renaming agg->aq,bool->aa,int->B,pointer->ad,slice->O
namespace Go.Proofs.YteaeipgfjmnecaaGreatDoor
set_option linter.unusedSimpArgs false
set_option linter.unusedVariables false
set_option maxHeartbeats 12800000
section
set_option maxRecDepth 100000
open Go.RowKit
theorem AM(a0 ao a2 P b8 b0 b1 aC aM ca:Int)(w:ac):(binOp .neq 129 (aq #[B o a0, B o ao, B o a2, B o P, B o b8]) (aq #[B o b0, B o b1, B o aC, B o aM, B o ca])).run aj w= .ok (aa (!(db [(a0,b0),(ao,b1),(a2,aC),(P,aM),(b8,ca)]))) w:=by
 simp[go_sem,db]
 repeat (first | rfl | (split <;> simp_all))
theorem yg(x y:bw):db [(x.1.1,y.1.1),(x.1.2.1,y.1.2.1),(x.1.2.2.1,y.1.2.2.1),(x.1.2.2.2,y.1.2.2.2),(x.2,y.2)]=au (x=y):=by
 obtain⟨⟨a,b,c,d⟩,e⟩:=x;obtain⟨⟨dA,dB,dC,dD⟩,dE⟩:=y;rw[Bool.eq_iff_iff];simp[db,and_assoc]
theorem pU{cM:Type}{l m:List cM}{i:Nat}{x:cM}(h:l.take i=m.take i)(av:l[i]? =D x)(a1:m[i]? =D x):l.take (i+1)=m.take (i+1):=by
 rw[List.take_add_one,List.take_add_one,av,a1,h]
theorem B8(W H N M:Int)(Am Ac ay aw:Option cF)(nm cm nc cc I aE J aD:Nat)(mask aG:List Int)(cs aF:List bw)(w:ac)(a1:Rd w 1 Am nm (bF mask))(hc:Rd w 5 Ac nc (cr cs))(b3:Rd w 1 ay I (bF aG))(b2:Rd w 5 aw J (cr aF))(hnm:nm<=140737488351232)(hnc:nc<=140737488351232):
  Calls aj 41 #[aq #[B o W, B o H, O Am nm cm, O Ac nc cc], aq #[B o N, B o M, O ay I aE, O aw J aD]] w fun e Z=>e= .returned (aa (au (W=N/\H=M/\mask=aG/\cs=aF)))/\Below w.heap.size w Z:=by
 have ct:=a1.k5;have co:=hc.mN;have cu:=b3.k5;have cq:=b2.mN;have cw:=aW (aQ w (Y #[B o W, B o H, O Am nm cm, O Ac nc cc] 25)) (Y #[B o N, B o M, O ay I aE, O aw J aD] 25);have b6:=aQ (w.alloc (Y #[B o W, B o H, O Am nm cm, O Ac nc cc] 25)) (Y #[B o N, B o M, O ay I aE, O aw J aD] 25);rw[World.size_alloc] at b6;have aJ:=aN (aV w (Y #[B o W, B o H, O Am nm cm, O Ac nc cc] 25)) (Y #[B o N, B o M, O ay I aE, O aw J aD] 25);obtain⟨a0,ao,a2,P⟩:=dm cw;obtain⟨b0,b1,aC,aM⟩:=dm b6;obtain⟨aB,bY⟩:=ai (au (W=N/\H=M/\mask=aG/\cs=aF));rw[<-bY]
 obtain⟨bS,b7,bk,aO,bl,aP,aA⟩:=kp bY aJ (a1.below aJ) (hc.below aJ) (b3.below aJ) (b2.below aJ) (a7 ct (a7 co (a7 cu cq)));clear bY aJ a1 hc b3 b2 cw b6 ct co cu cq;obtain⟨g,a5⟩:=ai (!au (W=N));have dl:(W !=N)=g:=by rw[a5,bne];by_cases h:W=N <;> simp[h]
 have dn:(W==N)= !g:=by rw[a5];by_cases h:W=N <;> simp[h]
 have dp:au (W=N)= !g:=by rw[a5];simp
 obtain⟨s,a8⟩:=ai (!au (H=M));have dq:(H !=M)=s:=by rw[a8,bne];by_cases h:H=M <;> simp[h]
 have dr:(H==M)= !s:=by rw[a8];by_cases h:H=M <;> simp[h]
 have dt:au (H=M)= !s:=by rw[a8];simp
 obtain⟨E,a9⟩:=ai (!au (nm=I));have cx:((nm:Int) !=(I:Int))=E:=by
  rw[a9,bne];by_cases h:nm=I
  ·simp[h]
  have:¬(nm:Int)=(I:Int):=by omega
  simp[h,this]
 have du:((nm:Int)==(I:Int))= !E:=by rw[<-cx,bne,qb]
 have dv:au (nm=I)= !E:=by rw[a9];simp
 have dw:(nm==I)= !E:=by rw[a9];by_cases h:nm=I <;> simp[h]
 obtain⟨ar,be⟩:=ai (!au (nc=J));have cy:((nc:Int) !=(J:Int))=ar:=by
  rw[be,bne];by_cases h:nc=J
  ·simp[h]
  have:¬(nc:Int)=(J:Int):=by omega
  simp[h,this]
 have dx:((nc:Int)==(J:Int))= !ar:=by rw[<-cy,bne,qb]
 have dy:au (nc=J)= !ar:=by rw[be];simp
 have dz:(nc==J)= !ar:=by rw[be];by_cases h:nc=J <;> simp[h]
 have ah:=R (a7 a5 (a7 a8 (a7 a9 be)));clear a5 a8 a9 be;go_in;go_upto_region 1 with fail
 generalize (w.alloc (Y #[B o W, B o H, O Am nm cm, O Ac nc cc] 25)).alloc (Y #[B o N, B o M, O ay I aE, O aw J aD] 25)=w0 at a0 ao a2 P b0 b1 aC aM b7 bk aO bl aP |-;obtain⟨dd,bI⟩:∃k:ae,Hid (k=(bif (!g) then ad (D ⟨w.heap.size,1,F⟩) else U)):=⟨_,R rfl⟩;obtain⟨de,bJ⟩:∃k:ae,Hid (k=(bif (!g) then B o H else U)):=⟨_,R rfl⟩;obtain⟨df,bK⟩:∃k:ae,Hid (k=(bif (!g) then ad (D ⟨w.heap.size+1,1,F⟩) else U)):=⟨_,R rfl⟩;obtain⟨dg,bL⟩:∃k:ae,Hid (k=(bif (!g) then B o M else U)):=⟨_,R rfl⟩;obtain⟨cP,bm⟩:∃k:ae,Hid (k=(bif (!g) then aa s else U)):=⟨_,R rfl⟩;obtain⟨cQ,bn⟩:∃k:ae,Hid (k= aa (g || s)):=⟨_,R rfl⟩
 obtain⟨cR,T⟩:∃k:ae,Hid (k= aa (g || s)):=⟨_,R rfl⟩;obtain⟨cT,bo⟩:∃k:ae,Hid (k=(bif (!(g || s)) then ad (D ⟨w.heap.size,2,F⟩) else U)):=⟨_,R rfl⟩;obtain⟨cV,bq⟩:∃k:ae,Hid (k=(bif (!(g || s)) then O Am nm cm else U)):=⟨_,R rfl⟩;obtain⟨cW,br⟩:∃k:ae,Hid (k=(bif (!(g || s)) then B o (nm:Int) else U)):=⟨_,R rfl⟩;obtain⟨cX,bs⟩:∃k:ae,Hid (k=(bif (!(g || s)) then ad (D ⟨w.heap.size+1,2,F⟩) else U)):=⟨_,R rfl⟩;obtain⟨cY,bt⟩:∃k:ae,Hid (k=(bif (!(g || s)) then O ay I aE else U)):=⟨_,R rfl⟩;obtain⟨cZ,bu⟩:∃k:ae,Hid (k=(bif (!(g || s)) then B o (I:Int) else U)):=⟨_,R rfl⟩
 obtain⟨c0,bv⟩:∃k:ae,Hid (k=(bif (!(g || s)) then aa E else U)):=⟨_,R rfl⟩;obtain⟨c1,bx⟩:∃k:ae,Hid (k= aa ((g || s) || E)):=⟨_,R rfl⟩;obtain⟨c2,af⟩:∃k:ae,Hid (k= aa ((g || s) || E)):=⟨_,R rfl⟩;obtain⟨c3,bz⟩:∃k:ae,Hid (k=(bif (!((g || s) || E)) then ad (D ⟨w.heap.size,3,F⟩) else U)):=⟨_,R rfl⟩;obtain⟨c5,bA⟩:∃k:ae,Hid (k=(bif (!((g || s) || E)) then O Ac nc cc else U)):=⟨_,R rfl⟩;obtain⟨c6,bB⟩:∃k:ae,Hid (k=(bif (!((g || s) || E)) then B o (nc:Int) else U)):=⟨_,R rfl⟩;obtain⟨c7,bC⟩:∃k:ae,Hid (k=(bif (!((g || s) || E)) then ad (D ⟨w.heap.size+1,3,F⟩) else U)):=⟨_,R rfl⟩
 obtain⟨c8,bD⟩:∃k:ae,Hid (k=(bif (!((g || s) || E)) then O aw J aD else U)):=⟨_,R rfl⟩;obtain⟨c9,bE⟩:∃k:ae,Hid (k=(bif (!((g || s) || E)) then B o (J:Int) else U)):=⟨_,R rfl⟩;obtain⟨da,bG⟩:∃k:ae,Hid (k=(bif (!((g || s) || E)) then aa ar else U)):=⟨_,R rfl⟩;obtain⟨dc,bH⟩:∃k:ae,Hid (k= aa (((g || s) || E) || ar)):=⟨_,R rfl⟩;refine ou (fin:= ?z2) [ad (D ⟨w.heap.size,0,F⟩), B o W, ad (D ⟨w.heap.size+1,0,F⟩), B o N, aa g, aa g,dd,de,df,dg,cP,cQ,cR,cT,cV,cW,cX,cY,cZ,c0,c1,c2,c3,c5,c6,c7,c8,c9,da,dc] ?hf (by kernel_rfl) rfl fun bV hst=> ?_;case hf=>simp only[aT,a6,bd,ba,bc];exact rfl
 have A:=R hst;have L:=hst;obtain⟨a0,ao,a2,P,b0,b1,aC,aM⟩:=md L a0 ao a2 P b0 b1 aC aM;constructor
 ·iterate 30 refine⟨?_,fun K r=> ?_⟩
  ·trivial
  ·obtain rfl:=bH.out
   obtain rfl:=af.out;obtain rfl:=bG.out;cases ar <;> cases E <;> cases g <;> cases s <;> (go_simp;exact r _ A.out)
  ·obtain rfl:=bG.out
   obtain rfl:=af.out;obtain rfl:=bB.out;obtain rfl:=bE.out;generalize ((g || s) || E)=y0 at r |-;cases y0 <;> (go_simp;exact r _ A.out)
  ·obtain rfl:=bE.out
   obtain rfl:=af.out;obtain rfl:=bD.out;generalize ((g || s) || E)=y0 at r |-;cases y0 <;> (go_simp;exact r _ A.out)
  ·obtain rfl:=bD.out
   obtain rfl:=af.out;obtain rfl:=bC.out;generalize ((g || s) || E)=y0 at r |-;cases y0 <;> (go_simp;exact r _ A.out)
  ·obtain rfl:=bC.out
   obtain rfl:=af.out;generalize ((g || s) || E)=y0 at r |-;cases y0 <;> (go_simp;exact r _ A.out)
  ·obtain rfl:=bB.out
   obtain rfl:=af.out;obtain rfl:=bA.out;generalize ((g || s) || E)=y0 at r |-;cases y0 <;> (go_simp;exact r _ A.out)
  ·obtain rfl:=bA.out
   obtain rfl:=af.out;obtain rfl:=bz.out;generalize ((g || s) || E)=y0 at r |-;cases y0 <;> (go_simp;exact r _ A.out)
  ·obtain rfl:=bz.out
   obtain rfl:=af.out;generalize ((g || s) || E)=y0 at r |-;cases y0 <;> (go_simp;exact r _ A.out)
  ·obtain rfl:=af.out
   obtain rfl:=bx.out;generalize ((g || s) || E)=y0 at r |-;cases y0 <;> (go_simp;exact r _ A.out)
  ·obtain rfl:=bx.out
   obtain rfl:=T.out;obtain rfl:=bv.out;cases E <;> cases g <;> cases s <;> (go_simp;exact r _ A.out)
  ·obtain rfl:=bv.out
   obtain rfl:=T.out;obtain rfl:=br.out;obtain rfl:=bu.out;generalize (g || s)=y0 at r |-;cases y0 <;> (go_simp;exact r _ A.out)
  ·obtain rfl:=bu.out
   obtain rfl:=T.out;obtain rfl:=bt.out;generalize (g || s)=y0 at r |-;cases y0 <;> (go_simp;exact r _ A.out)
  ·obtain rfl:=bt.out
   obtain rfl:=T.out;obtain rfl:=bs.out;generalize (g || s)=y0 at r |-;cases y0 <;> (go_simp;exact r _ A.out)
  ·obtain rfl:=bs.out
   obtain rfl:=T.out;generalize (g || s)=y0 at r |-;cases y0 <;> (go_simp;exact r _ A.out)
  ·obtain rfl:=br.out
   obtain rfl:=T.out;obtain rfl:=bq.out;generalize (g || s)=y0 at r |-;cases y0 <;> (go_simp;exact r _ A.out)
  ·obtain rfl:=bq.out
   obtain rfl:=T.out;obtain rfl:=bo.out;generalize (g || s)=y0 at r |-;cases y0 <;> (go_simp;exact r _ A.out)
  ·obtain rfl:=bo.out
   obtain rfl:=T.out;generalize (g || s)=y0 at r |-;cases y0 <;> (go_simp;exact r _ A.out)
  ·obtain rfl:=T.out
   obtain rfl:=bn.out;generalize (g || s)=y0 at r |-;cases y0 <;> (go_simp;exact r _ A.out)
  ·obtain rfl:=bn.out
   obtain rfl:=bm.out;cases g <;> cases s <;> (go_simp;exact r _ A.out)
  ·obtain rfl:=bm.out
   obtain rfl:=bJ.out;obtain rfl:=bL.out;cases g <;> (go_simp;exact r _ A.out)
  ·obtain rfl:=bL.out
   obtain rfl:=bK.out;cases g <;> (go_simp;exact r _ A.out)
  ·obtain rfl:=bK.out
   cases g <;> (go_simp;exact r _ A.out)
  ·obtain rfl:=bJ.out
   obtain rfl:=bI.out;cases g <;> (go_simp;exact r _ A.out)
  ·obtain rfl:=bI.out
   cases g <;> (go_simp;exact r _ A.out)
  ·cases g <;> (go_simp;exact r _ A.out)
  iterate 5 (go_simp;exact r _ A.out)
 obtain rfl:=bH.out;clear bI bJ bK bL bm bn T bo bq br bs bt bu bv bx af bz bA bB bC bD bE bG bH;have bj:=R (ax b7.out L);replace bk:=R (bk.out.below L);replace aO:=R (aO.out.below L);replace bl:=R (bl.out.below L);replace aP:=R (aP.out.below L);obtain⟨G,bX⟩:=ai ((((g || s) || E) || ar));rw[<-bX];have bP:=R bX;clear bX L dl dn dp dq dr dt cx du dv dw cy dx dy dz
 cases G with
 | true=>
  have dk:aB=Q:=by
   rw[bS.out];refine decide_eq_false ?_;rintro⟨h1,ab,ag,az⟩;have av:=aA.out;have aZ:=bP.out;rw[ah.out.1,ah.out.2.1,ah.out.2.2.1,ah.out.2.2.2,decide_eq_true h1,decide_eq_true ab,decide_eq_true (by rw[<-av.1,<-av.2.2.1,ag]:nm=I),decide_eq_true (by rw[<-av.2.1,<-av.2.2.2,az]:nc=J)] at aZ;cases aZ
  subst dk;go_wp2;go_ret;exact⟨rfl,bj.out⟩
 | false=>
  have aZ:=bP.out.symm;simp only[r9] at aZ;obtain⟨⟨⟨ce,cf⟩,cg⟩,ch⟩:=aZ;have ap:W=N:=by have:=ah.out.1;rw[ce] at this;simpa using this
  have ak:H=M:=by have:=ah.out.2.1;rw[cf] at this;simpa using this
  have cb:nm=I:=by have:=ah.out.2.2.1;rw[cg] at this;simpa using this
  have cd:nc=J:=by have:=ah.out.2.2.2;rw[ch] at this;simpa using this
  have ck:aB=S↔mask=aG/\cs=aF:=by rw[bS.out];simp[ap,ak]
  obtain⟨bQ,aH⟩:=aY ck (a7 cb cd);obtain⟨cL,rfl⟩:=ai bV;clear ce cf cg ch ap ak cb cd ck bS ah bP
  go_wp2_with fail
  go_loopw [5] (fun x wr=>∃i:Nat,i<=nm/\x= B o i/\Hid (mask.take i=aG.take i)/\Hid (Below cL.heap.size cL wr)) (fun x _=>nm-(intOf x).toNat)
  case atStart=>exact⟨0,by omega,rfl,R (by simp),R aX⟩
  obtain⟨i,al,rfl,bi,aK⟩:=hrel;replace a0:=V a0 aK.out;replace ao:=V ao aK.out;replace a2:=V a2 aK.out;replace P:=V P aK.out;replace b0:=V b0 aK.out;replace b1:=V b1 aK.out;replace aC:=V aC aK.out;replace aM:=V aM aK.out;by_cases cl:i < nm
  ·have di:(i:Int) < (nm:Int):=by omega
   have dj:(i:Int) < (I:Int):=by have:=aH.out.1;omega
   have dh:(0:Int)<=(i:Int):=by omega
   obtain⟨p,bg,z,b4,dG,aI,ci⟩:=(bk.out.below aK.out).int cl;obtain⟨b9,bh,z2,b5,dH,an,cj⟩:=(bl.out.below aK.out).int (show i < I by have:=aH.out.1;omega);subst b4 b5;have bf:z=z2->mask.take (i+1)=aG.take (i+1):=fun e=>by subst e;exact pU bi.out aI an
   have a3:z≠z2->aB=Q:=fun e=>by
    cases bZ:aB
    ·rfl
    ·exact absurd (by have h1:=(bQ.out.1 bZ).1;rw[h1,an] at aI;exact(cn aI).symm) e
   obtain⟨bU,bR⟩:=aY bf a3;clear bf a3 aI an;obtain⟨d,am⟩:=ai (!au (z=z2));have dI:(z !=z2)=d:=by rw[am,bne];by_cases h:z=z2 <;> simp[h]
   have dJ:(z==z2)= !d:=by rw[am];by_cases h:z=z2 <;> simp[h]
   have dK:au (z=z2)= !d:=by rw[am];simp
   have aR:=R am;clear am
   go_wp2_with fail
   refine bW (fin:= ?z3) [ad (D ⟨w.heap.size,2,F⟩), O (D ⟨p,bg,F⟩) nm cm, B o (i:Int), ad (D ⟨p,bg+i,F⟩), B o z, ad (D ⟨w.heap.size+1,2,F⟩), O (D ⟨b9,bh,F⟩) I aE, B o (i:Int), ad (D ⟨b9,bh+i,F⟩), B o z2, aa d] ?hf bp (by kernel_rfl) rfl fun bV L=> ?_;case hf=>simp only[aT,a6,bd,ba,bc];exact rfl
   have bT:=R L;obtain⟨a2,aC,ci,cj⟩:=fQ L a2 aC ci cj;constructor
   ·iterate 11 refine⟨?_,fun K r=> ?_⟩
    ·trivial
    all_goals try (go_simp;exact r _ bT.out;done)
   have aL:=R (ax aK.out L);clear L
   cases d with
   | true=>
    have a4:=bR.out (by have:=aR.out;simpa using this);subst a4;go_wp2;go_ret;exact⟨rfl,ax bj.out aL.out⟩
   | false=>
    have aU:=bU.out (by have:=aR.out;simpa using this);have bO:=R aU;clear aU;go_wp2;go_roundw
    case rel=>exact⟨i+1,by omega,by go_num,bO,aL⟩
    case measure=>simp[intOf];omega
  obtain rfl:i=nm:=by omega
  have cv:mask=aG:=by
   have h:=bi.out
   rwa [hU (by have:=aA.out.1;omega),hU (by have:=aA.out.2.2.1;have:=aH.out.1;omega)] at h
  have cN:=R cv;clear cv;obtain⟨cK,rfl⟩:=ai wr
  go_wp2_with fail
  go_loopw [6] (fun x wr=>∃i:Nat,i<=nc/\x= B o i/\Hid (cs.take i=aF.take i)/\Hid (Below cK.heap.size cK wr)) (fun x _=>nc-(intOf x).toNat)
  case atStart=>exact⟨0,by omega,rfl,R (by simp),R aX⟩
  have bN:=aK;clear bi aK;obtain⟨i,al,rfl,bi,aK⟩:=hrel;replace a0:=V a0 aK.out;replace ao:=V ao aK.out;replace a2:=V a2 aK.out;replace P:=V P aK.out;replace b0:=V b0 aK.out;replace b1:=V b1 aK.out;replace aC:=V aC aK.out;replace aM:=V aM aK.out;by_cases cl:i < nc
  ·have di:(i:Int) < (nc:Int):=by omega
   have dj:(i:Int) < (J:Int):=by have:=aH.out.2;omega
   have dh:(0:Int)<=(i:Int):=by omega
   have aS:=ax bN.out aK.out;obtain⟨p,bg,b4,_,_⟩:=(aO.out.below aS).2 (by omega);obtain⟨b9,bh,b5,_,_⟩:=(aP.out.below aS).2 (by omega);subst b4 b5;obtain⟨z,aI⟩:∃z,cs[i]? =D z:=⟨_,bb (by have:=aA.out.2.1;omega)⟩;obtain⟨z2,an⟩:∃z,aF[i]? =D z:=⟨_,bb (by have:=aA.out.2.2.2;have:=aH.out.2;omega)⟩;obtain⟨cz,cA,cB,cC,cD⟩:=(aO.out.below aS).lK aI;obtain⟨cE,cG,cH,cI,cJ⟩:=(aP.out.below aS).lK an;have bf:z=z2->cs.take (i+1)=aF.take (i+1):=fun e=>by subst e;exact pU bi.out aI an
   have a3:z≠z2->aB=Q:=fun e=>by
    cases bZ:aB
    ·rfl
    ·exact absurd (by have h1:=(bQ.out.1 bZ).2;rw[h1,an] at aI;exact(cn aI).symm) e
   obtain⟨bU,bR⟩:=aY bf a3;clear bf a3 aI an aS;obtain⟨d,am⟩:=ai (!au (z=z2));have dF:∀W:ac,(binOp .neq 129 (aq #[B o z.1.1, B o z.1.2.1, B o z.1.2.2.1, B o z.1.2.2.2, B o z.2]) (aq #[B o z2.1.1, B o z2.1.2.1, B o z2.1.2.2.1, B o z2.1.2.2.2, B o z2.2])).run aj W= .ok (aa d) W:=fun W=>by rw[AM,yg,am]
   have aR:=R am;clear am
   go_wp2_with fail
   refine bW (fin:= ?z4) [ad (D ⟨w.heap.size,3,F⟩), O (D ⟨p,bg,F⟩) nc cc, B o (i:Int), ad (D ⟨p,bg+i*5,F⟩), aq #[B o z.1.1, B o z.1.2.1, B o z.1.2.2.1, B o z.1.2.2.2, B o z.2], ad (D ⟨w.heap.size+1,3,F⟩), O (D ⟨b9,bh,F⟩) J aD, B o (i:Int), ad (D ⟨b9,bh+i*5,F⟩), aq #[B o z2.1.1, B o z2.1.2.1, B o z2.1.2.2.1, B o z2.1.2.2.2, B o z2.2], aa d] ?hf bp (by kernel_rfl) rfl fun bV L=> ?_;case hf=>simp only[aT,a6,bd,ba,bc];exact rfl
   have bT:=R L;obtain⟨P,aM,cz,cA,cB,cC,cD,cE,cG,cH,cI,cJ⟩:=lb L P aM cz cA cB cC cD cE cG cH cI cJ;constructor
   ·iterate 11 refine⟨?_,fun K r=> ?_⟩
    ·trivial
    all_goals try (go_simp;exact r _ bT.out;done)
   have aL:=R (ax aK.out L);clear L
   cases d with
   | true=>
    have a4:=bR.out (by have:=aR.out;simpa using this);subst a4;go_wp2;go_ret;exact⟨rfl,ax (ax bj.out bN.out) aL.out⟩
   | false=>
    have aU:=bU.out (by have:=aR.out;simpa using this);have bO:=R aU;clear aU;go_wp2;go_roundw
    case rel=>exact⟨i+1,by omega,by go_num,bO,aL⟩
    case measure=>simp[intOf];omega
  obtain rfl:i=nc:=by omega
  have a4:aB=S:=bQ.out.2 ⟨cN.out,by
   have h:=bi.out
   rwa [hU (by have:=aA.out.2.1;omega),hU (by have:=aA.out.2.2.2;have:=aH.out.2;omega)] at h⟩
  subst a4;go_wp2;go_ret;exact⟨rfl,ax (ax bj.out bN.out) aK.out⟩
end
section
set_option maxRecDepth 100000
open Go.RowKit Go.Maps
theorem yh(bo a:ah):db [(bo.1,a.1),(bo.2.1,a.2.1),(bo.2.2,a.2.2)]=au (bo=a):=by
 obtain⟨x,y,k⟩:=bo;obtain⟨em,eo,el⟩:=a;rw[Bool.eq_iff_iff];simp[db]
theorem B9(W H M L:Int)(Am Ac Ap As aB aA aJ aO:Option cF)(nm cm nc cc np cp ns cS aG a4 aF a3 cX a5 I aD:Nat)(mask bk:List Int)(cs bh:List bw)(ms l:List aR)(sts bf:List aP)(w:ac)(df:Rd w 1 Am nm (bF mask))(hc:Rd w 5 Ac nc (cr cs))(cM:Rd w 6 Ap np (b5 ms))(hst:en w As ns sts)
  (dg:Rd w 1 aB aG (bF bk)) (c9:Rd w 5 aA aF (cr bh)) (cQ:Rd w 6 aJ cX (b5 l)) (cT:en w aO I bf) (hnm:nm<=140737488351232) (hnc:nc<=140737488351232) (hnp:np<=140737488351232):
  Calls aj 12 #[aq #[B o W, B o H, O Am nm cm, O Ac nc cc, O Ap np cp, O As ns cS], aq #[B o M, B o L, O aB aG a4, O aA aF a3, O aJ cX a5, O aO I aD]] w fun e Z=>e= .returned (aa (au (W=M/\H=L/\mask=bk/\cs=bh/\ms=l/\sts=bf)))/\Below w.heap.size w Z:=by
 have eb:np=ms.length:=by have:=cM.1;rw[l4] at this;omega
 have ec:cX=l.length:=by have:=cQ.1;rw[l4] at this;omega
 subst eb ec;have dd:=hst.len;have de:=cT.len;have ek:=hst.aL;have dj:=aW (aQ w (Y #[B o W, B o H, O Am nm cm, O Ac nc cc, O Ap ms.length cp, O As ns cS] 29)) (Y #[B o M, B o L, O aB aG a4, O aA aF a3, O aJ l.length a5, O aO I aD] 29);have cW:=aQ (w.alloc (Y #[B o W, B o H, O Am nm cm, O Ac nc cc, O Ap ms.length cp, O As ns cS] 29)) (Y #[B o M, B o L, O aB aG a4, O aA aF a3, O aJ l.length a5, O aO I aD] 29);rw[World.size_alloc] at cW;have bj:=aN (aV w (Y #[B o W, B o H, O Am nm cm, O Ac nc cc, O Ap ms.length cp, O As ns cS] 29)) (Y #[B o M, B o L, O aB aG a4, O aA aF a3, O aJ l.length a5, O aO I aD] 29)
 obtain⟨a0,ao,a2,a1,T,af⟩:=cx dj;obtain⟨b0,b1,aC,aM,am,an⟩:=cx cW;have cG:=fun(W':ac) (a9:Below w.heap.size w W')=>B8 W H M L Am Ac aB aA nm cm nc cc aG a4 aF a3 mask bk cs bh W' (df.below a9) (hc.below a9) (dg.below a9) (c9.below a9) hnm hnc;obtain⟨aZ,cH⟩:=ai (au (W=M/\H=L/\mask=bk/\cs=bh/\ms=l/\sts=bf));rw[<-cH];obtain⟨g,cV⟩:=ai (au (W=M/\H=L/\mask=bk/\cs=bh));rw[<-cV] at cG;obtain⟨c3,cD,cy,bK,s,bL,bN,bn⟩:=l1 cG cH bj (cM.below bj) (hst.below bj) (cQ.below bj) (cT.below bj) (a7 dd de);clear cH bj df hc cM hst dg c9 cQ cT dj cW dd de cG;obtain⟨r,bv⟩:=ai (!au (ms.length=l.length));have dk:((ms.length:Int) !=(l.length:Int))=r:=by
  rw[bv,bne];by_cases h:ms.length=l.length
  ·simp[h]
  have:¬(ms.length:Int)=(l.length:Int):=by omega
  simp[h,this]
 have ee:((ms.length:Int)==(l.length:Int))= !r:=by rw[<-dk,bne,qb]
 have ef:au (ms.length=l.length)= !r:=by rw[bv];simp
 have eg:(ms.length==l.length)= !r:=by rw[bv];by_cases h:ms.length=l.length <;> simp[h]
 obtain⟨aH,bx⟩:=ai (!au (ns=I));have dl:((ns:Int) !=(I:Int))=aH:=by
  rw[bx,bne];by_cases h:ns=I
  ·simp[h]
  have:¬(ns:Int)=(I:Int):=by omega
  simp[h,this]
 have eh:((ns:Int)==(I:Int))= !aH:=by rw[<-dl,bne,qb]
 have ei:au (ns=I)= !aH:=by rw[bx];simp
 have ej:(ns==I)= !aH:=by rw[bx];by_cases h:ns=I <;> simp[h]
 have aU:=R (a7 cV (a7 bv bx));clear cV bv bx;go_in;go_upto_region 1 with fail
 generalize (w.alloc (Y #[B o W, B o H, O Am nm cm, O Ac nc cc, O Ap ms.length cp, O As ns cS] 29)).alloc (Y #[B o M, B o L, O aB aG a4, O aA aF a3, O aJ l.length a5, O aO I aD] 29)=w0 at a0 ao a2 a1 T af b0 b1 aC aM am an cy bK s bL bN |-;obtain⟨dL,b6⟩:∃b:ae,Hid (b= aa (!g)):=⟨_,R rfl⟩;obtain⟨dM,P⟩:∃b:ae,Hid (b= aa (!g)):=⟨_,R rfl⟩;obtain⟨dN,b7⟩:∃b:ae,Hid (b=(bif g then ad (D ⟨w.heap.size,4,F⟩) else U)):=⟨_,R rfl⟩;obtain⟨dO,b8⟩:∃b:ae,Hid (b=(bif g then O Ap ms.length cp else U)):=⟨_,R rfl⟩;obtain⟨dP,ca⟩:∃b:ae,Hid (b=(bif g then B o (ms.length:Int) else U)):=⟨_,R rfl⟩;obtain⟨dx,bO⟩:∃b:ae,Hid (b=(bif g then ad (D ⟨w.heap.size+1,4,F⟩) else U)):=⟨_,R rfl⟩
 obtain⟨dy,bP⟩:∃b:ae,Hid (b=(bif g then O aJ l.length a5 else U)):=⟨_,R rfl⟩;obtain⟨dz,bQ⟩:∃b:ae,Hid (b=(bif g then B o (l.length:Int) else U)):=⟨_,R rfl⟩;obtain⟨dA,bR⟩:∃b:ae,Hid (b=(bif g then aa r else U)):=⟨_,R rfl⟩;obtain⟨dB,bS⟩:∃b:ae,Hid (b= aa ((!g) || r)):=⟨_,R rfl⟩;obtain⟨dC,N⟩:∃b:ae,Hid (b= aa ((!g) || r)):=⟨_,R rfl⟩;obtain⟨dD,bT⟩:∃b:ae,Hid (b=(bif (!((!g) || r)) then ad (D ⟨w.heap.size,5,F⟩) else U)):=⟨_,R rfl⟩;obtain⟨dE,bU⟩:∃b:ae,Hid (b=(bif (!((!g) || r)) then O As ns cS else U)):=⟨_,R rfl⟩;obtain⟨dF,bV⟩:∃b:ae,Hid (b=(bif (!((!g) || r)) then B o (ns:Int) else U)):=⟨_,R rfl⟩
 obtain⟨dG,bX⟩:∃b:ae,Hid (b=(bif (!((!g) || r)) then ad (D ⟨w.heap.size+1,5,F⟩) else U)):=⟨_,R rfl⟩;obtain⟨dH,bY⟩:∃b:ae,Hid (b=(bif (!((!g) || r)) then O aO I aD else U)):=⟨_,R rfl⟩;obtain⟨dI,bZ⟩:∃b:ae,Hid (b=(bif (!((!g) || r)) then B o (I:Int) else U)):=⟨_,R rfl⟩;obtain⟨dJ,b3⟩:∃b:ae,Hid (b=(bif (!((!g) || r)) then aa aH else U)):=⟨_,R rfl⟩;obtain⟨dK,b4⟩:∃b:ae,Hid (b= aa (((!g) || r) || aH)):=⟨_,R rfl⟩;refine ou (fin:= ?z6) [ad (D ⟨w.heap.size,0,F⟩), aq #[B o W, B o H, O Am nm cm, O Ac nc cc], ad (D ⟨w.heap.size+1,0,F⟩), aq #[B o M, B o L, O aB aG a4, O aA aF a3], aa g,dL,dM,dN,dO,dP,dx,dy,dz,dA,dB,dC,dD,dE,dF,dG,dH,dI,dJ,dK] ?hf (by kernel_rfl) rfl fun bq hst=> ?_
 case hf=>simp only[aT,a6,bd,ba,bc];exact rfl
 have J:=R hst;have E:=hst;obtain⟨a0,ao,a2,a1,T,af,b0,b1,aC,aM,am,an⟩:=lb E a0 ao a2 a1 T af b0 b1 aC aM am an;constructor
 ·iterate 24 refine⟨?_,fun K c=> ?_⟩
  ·trivial
  ·obtain rfl:=b4.out
   obtain rfl:=N.out;obtain rfl:=b3.out;cases aH <;> cases r <;> cases g <;> (go_simp;exact c _ J.out)
  ·obtain rfl:=b3.out
   obtain rfl:=N.out;obtain rfl:=bV.out;obtain rfl:=bZ.out;generalize ((!g) || r)=y0 at c |-;cases y0 <;> (go_simp;exact c _ J.out)
  ·obtain rfl:=bZ.out
   obtain rfl:=N.out;obtain rfl:=bY.out;generalize ((!g) || r)=y0 at c |-;cases y0 <;> (go_simp;exact c _ J.out)
  ·obtain rfl:=bY.out
   obtain rfl:=N.out;obtain rfl:=bX.out;generalize ((!g) || r)=y0 at c |-;cases y0 <;> (go_simp;exact c _ J.out)
  ·obtain rfl:=bX.out
   obtain rfl:=N.out;generalize ((!g) || r)=y0 at c |-;cases y0 <;> (go_simp;exact c _ J.out)
  ·obtain rfl:=bV.out
   obtain rfl:=N.out;obtain rfl:=bU.out;generalize ((!g) || r)=y0 at c |-;cases y0 <;> (go_simp;exact c _ J.out)
  ·obtain rfl:=bU.out
   obtain rfl:=N.out;obtain rfl:=bT.out;generalize ((!g) || r)=y0 at c |-;cases y0 <;> (go_simp;exact c _ J.out)
  ·obtain rfl:=bT.out
   obtain rfl:=N.out;generalize ((!g) || r)=y0 at c |-;cases y0 <;> (go_simp;exact c _ J.out)
  ·obtain rfl:=N.out
   obtain rfl:=bS.out;generalize ((!g) || r)=y0 at c |-;cases y0 <;> (go_simp;exact c _ J.out)
  ·obtain rfl:=bS.out
   obtain rfl:=P.out;obtain rfl:=bR.out;cases g <;> cases r <;> (go_simp;exact c _ J.out)
  ·obtain rfl:=bR.out
   obtain rfl:=P.out;obtain rfl:=ca.out;obtain rfl:=bQ.out;cases g <;> (go_simp;exact c _ J.out)
  ·obtain rfl:=bQ.out
   obtain rfl:=P.out;obtain rfl:=bP.out;cases g <;> (go_simp;exact c _ J.out)
  ·obtain rfl:=bP.out
   obtain rfl:=P.out;obtain rfl:=bO.out;cases g <;> (go_simp;exact c _ J.out)
  ·obtain rfl:=bO.out
   obtain rfl:=P.out;cases g <;> (go_simp;exact c _ J.out)
  ·obtain rfl:=ca.out
   obtain rfl:=P.out;obtain rfl:=b8.out;cases g <;> (go_simp;exact c _ J.out)
  ·obtain rfl:=b8.out
   obtain rfl:=P.out;obtain rfl:=b7.out;cases g <;> (go_simp;exact c _ J.out)
  ·obtain rfl:=b7.out
   obtain rfl:=P.out;cases g <;> (go_simp;exact c _ J.out)
  ·obtain rfl:=P.out
   obtain rfl:=b6.out;generalize (!g)=y0 at c |-;cases y0 <;> (go_simp;exact c _ J.out)
  ·obtain rfl:=b6.out
   cases g <;> (go_simp;exact c _ J.out)
  ·go_simp;exact aw (c3.out bq (ax cy.out E)) fun wc cJ=>c _ (ax E cJ)
  iterate 4 (go_simp;exact c _ J.out)
 obtain rfl:=b4.out;clear b6 P b7 b8 ca bO bP bQ bR bS N bT bU bV bX bY bZ b3 b4;have bJ:=R (ax cy.out E);replace bK:=R (bK.out.below E);replace s:=R (s.out.below E);replace bL:=R (bL.out.below E);replace bN:=R (bN.out.below E);obtain⟨G,a8⟩:=ai ((((!g) || r) || aH));rw[<-a8];have bg:=R a8;clear a8 E dk ee ef eg dl eh ei ej c3
 cases G with
 | true=>
  have ed:aZ=Q:=by
   rw[cD.out];refine decide_eq_false ?_;rintro⟨h1,ab,ag,az,h5,h6⟩;have av:=bn.out;have bs:=bg.out;rw[aU.out.1,aU.out.2.1,aU.out.2.2,decide_eq_true ⟨h1,ab,ag,az⟩,decide_eq_true (by rw[h5]:ms.length=l.length),decide_eq_true (by rw[av.1,av.2,h6]:ns=I)] at bs;cases bs
  subst ed;go_wp2;go_ret;exact⟨rfl,bJ.out⟩
 | false=>
  have bs:=bg.out.symm;simp only[r9,Bool.not_eq_false'] at bs;obtain⟨⟨c6,c7⟩,c8⟩:=bs;have ap:W=M/\H=L/\mask=bk/\cs=bh:=by have:=aU.out.1;rw[c6] at this;exact of_decide_eq_true this.symm
  have ak:ms.length=l.length:=by have:=aU.out.2.1;rw[c7] at this;simpa using this
  have c5:ns=I:=by have:=aU.out.2.2;rw[c8] at this;simpa using this
  have da:aZ=S↔ms=l/\sts=bf:=by rw[cD.out];simp[ap]
  obtain⟨cB,bm⟩:=aY da (a7 ak c5);obtain⟨dt,rfl⟩:=ai bq;clear c6 c7 c8 ap ak c5 da cD aU bg
  go_wp2_with fail
  go_loopw [5] (fun x wr=>∃i:Nat,i<=ms.length/\x= B o i/\Hid (ms.take i=l.take i)/\Hid (Below dt.heap.size dt wr)) (fun x _=>ms.length-(intOf x).toNat)
  case atStart=>exact⟨0,by omega,rfl,R (by simp),R aX⟩
  obtain⟨i,al,rfl,bi,aK⟩:=hrel;replace a0:=V a0 aK.out;replace ao:=V ao aK.out;replace a2:=V a2 aK.out;replace a1:=V a1 aK.out;replace T:=V T aK.out;replace af:=V af aK.out;replace b0:=V b0 aK.out;replace b1:=V b1 aK.out;replace aC:=V aC aK.out;replace aM:=V aM aK.out;replace am:=V am aK.out;replace an:=V an aK.out;by_cases dc:i < ms.length
  ·have d8:(i:Int) < (ms.length:Int):=by omega
   have ea:i < l.length:=by have:=bm.out.1;omega
   have d9:(i:Int) < (l.length:Int):=by omega
   have d7:(0:Int)<=(i:Int):=by omega
   obtain⟨p,ar,z,cP,aI,_,bA,bB,bC,bD,dm,dn⟩:=(bK.out.below aK.out).mp dc;obtain⟨b9,ay,A,cR,aE,_,bE,bG,bH,bI,dp,dq⟩:=(bL.out.below aK.out).mp ea;subst cP cR;have bz:z=A->ms.take (i+1)=l.take (i+1):=fun e=>by subst e;exact pU bi.out aI aE
   have bt:z≠A->aZ=Q:=fun e=>by
    cases cI:aZ
    ·rfl
    ·exact absurd (by have h1:=(cB.out.1 cI).1;rw[h1,aE] at aI;exact(cn aI).symm) e
   obtain⟨cE,cC⟩:=aY bz bt;clear bz bt aI aE;obtain⟨d,be⟩:=ai (!au (z=A));have di:∀W:ac,(binOp .neq 64 (b2 z) (b2 A)).run aj W= .ok (aa d) W:=fun W=>by rw[oh,be]
   have aS:=R be;clear be
   go_wp2_with fail
   refine bW (fin:= ?z7) [ad (D ⟨w.heap.size,4,F⟩), O (D ⟨p,ar,F⟩) ms.length cp, B o (i:Int), ad (D ⟨p,ar+i*6,F⟩), aq #[B o z.1, B o z.2.1, B o z.2.2.1, B o z.2.2.2.1, B o z.2.2.2.2.1, B o z.2.2.2.2.2], ad (D ⟨w.heap.size+1,4,F⟩), O (D ⟨b9,ay,F⟩) l.length a5, B o (i:Int), ad (D ⟨b9,ay+i*6,F⟩), aq #[B o A.1, B o A.2.1, B o A.2.2.1, B o A.2.2.2.1, B o A.2.2.2.2.1, B o A.2.2.2.2.2], aa d] ?hf bp (by kernel_rfl) rfl fun bq E=> ?_;case hf=>simp only[aT,a6,bd,ba,bc];exact rfl
   have s:=R E;obtain⟨T,am,bA,bB,bC,bD,dm,dn,bE,bG,bH,bI,dp,dq⟩:=ox E T am bA bB bC bD dm dn bE bG bH bI dp dq;constructor
   ·iterate 11 refine⟨?_,fun K c=> ?_⟩
    ·trivial
    all_goals try (go_simp;exact c _ s.out;done)
   have bl:=R (ax aK.out E);clear E
   cases d with
   | true=>
    have bu:=cC.out (by have:=aS.out;simpa using this);subst bu;go_wp2;go_ret;exact⟨rfl,ax bJ.out bl.out⟩
   | false=>
    have br:=cE.out (by have:=aS.out;simpa using this);have cA:=R br;clear br;go_wp2;go_roundw
    case rel=>exact⟨i+1,by omega,by go_num,cA,bl⟩
    case measure=>simp[intOf];omega
  obtain rfl:i=ms.length:=by omega
  have dh:ms=l:=by
   have h:=bi.out
   rwa [List.take_length,hU (by have:=bm.out.1;omega)] at h
  have dw:=R dh;clear dh;obtain⟨dr,rfl⟩:=ai wr
  go_wp2_with fail
  go_loopw [6] (fun x wr=>∃i:Nat,i<=ns/\x= B o i/\Hid (sts.take i=bf.take i)/\Hid (Below dr.heap.size dr wr)) (fun x _=>ns-(intOf x).toNat)
  case atStart=>exact⟨0,by omega,rfl,R (by simp),R aX⟩
  have cz:=aK;clear bi aK;obtain⟨i,al,rfl,bi,aK⟩:=hrel;replace a0:=V a0 aK.out;replace ao:=V ao aK.out;replace a2:=V a2 aK.out;replace a1:=V a1 aK.out;replace T:=V T aK.out;replace af:=V af aK.out;replace b0:=V b0 aK.out;replace b1:=V b1 aK.out;replace aC:=V aC aK.out;replace aM:=V aM aK.out;replace am:=V am aK.out;replace an:=V an aK.out;by_cases dc:i < ns
  ·have d8:(i:Int) < (ns:Int):=by omega
   have d9:(i:Int) < (I:Int):=by have:=bm.out.2;omega
   have d7:(0:Int)<=(i:Int):=by omega
   have cK:=ax cz.out aK.out;obtain⟨z,aI⟩:∃z,sts[i]? =D z:=⟨_,bb (by have:=bn.out.1;omega)⟩;obtain⟨A,aE⟩:∃z,bf[i]? =D z:=⟨_,bb (by have:=bn.out.2;have:=bm.out.2;omega)⟩;obtain⟨p,ar,cY,c1,cP,cN,⟨du,_⟩,bA,bB,bC,bD⟩:=(s.out.below cK).qH aI;obtain⟨b9,ay,c0,c2,cR,ct,⟨ep,_⟩,bE,bG,bH,bI⟩:=(bN.out.below cK).qH aE;subst cP cR;have bz:z=A->sts.take (i+1)=bf.take (i+1):=fun e=>by subst e;exact pU bi.out aI aE
   have bt:z≠A->aZ=Q:=fun e=>by
    cases cI:aZ
    ·rfl
    ·exact absurd (by have h1:=(cB.out.1 cI).2;rw[h1,aE] at aI;exact(cn aI).symm) e
   obtain⟨cE,cC⟩:=aY bz bt;have cZ:=fun(W':ac) (a9:Below wr.heap.size wr W')=>Ca cY c0 z.2.length A.2.length c1 c2 z.2 A.2 W' (cN.below a9) (ct.below a9) (by omega) (by omega);obtain⟨d,be⟩:=ai (!au (z.1=A.1));obtain⟨d2,cL⟩:=ai (au (z.2=A.2));rw[<-cL] at cZ;have di:∀W:ac,(binOp .neq 53 (aq #[B o z.1.1, B o z.1.2.1, B o z.1.2.2]) (aq #[B o A.1.1, B o A.1.2.1, B o A.1.2.2])).run aj W= .ok (aa d) W:=fun W=>by rw[jJ,yh,be]
   obtain⟨aS,dv⟩:=aY (a7 be cL) cZ;clear bz bt aI aE cK cZ be cL cN ct
   go_wp2_with fail
   obtain⟨dQ,cb⟩:∃b:ae,Hid (b=(bif (!d) then ad (D ⟨w.heap.size,5,F⟩) else U)):=⟨_,R rfl⟩;obtain⟨dR,cd⟩:∃b:ae,Hid (b=(bif (!d) then O (D ⟨p,ar,F⟩) ns cS else U)):=⟨_,R rfl⟩;obtain⟨dS,ce⟩:∃b:ae,Hid (b=(bif (!d) then B o (i:Int) else U)):=⟨_,R rfl⟩;obtain⟨dT,cf⟩:∃b:ae,Hid (b=(bif (!d) then ad (D ⟨p,ar+i*4,F⟩) else U)):=⟨_,R rfl⟩;obtain⟨dU,cg⟩:∃b:ae,Hid (b=(bif (!d) then ad (D ⟨p,ar+i*4+3,F⟩) else U)):=⟨_,R rfl⟩;obtain⟨dV,ch⟩:∃b:ae,Hid (b=(bif (!d) then O cY z.2.length c1 else U)):=⟨_,R rfl⟩;obtain⟨dW,ci⟩:∃b:ae,Hid (b=(bif (!d) then ad (D ⟨w.heap.size+1,5,F⟩) else U)):=⟨_,R rfl⟩
   obtain⟨dX,cj⟩:∃b:ae,Hid (b=(bif (!d) then O (D ⟨b9,ay,F⟩) I aD else U)):=⟨_,R rfl⟩;obtain⟨dY,ck⟩:∃b:ae,Hid (b=(bif (!d) then B o (i:Int) else U)):=⟨_,R rfl⟩;obtain⟨dZ,cl⟩:∃b:ae,Hid (b=(bif (!d) then ad (D ⟨b9,ay+i*4,F⟩) else U)):=⟨_,R rfl⟩;obtain⟨d1,co⟩:∃b:ae,Hid (b=(bif (!d) then ad (D ⟨b9,ay+i*4+3,F⟩) else U)):=⟨_,R rfl⟩;obtain⟨d3,cq⟩:∃b:ae,Hid (b=(bif (!d) then O c0 A.2.length c2 else U)):=⟨_,R rfl⟩;obtain⟨d4,cu⟩:∃b:ae,Hid (b=(bif (!d) then aa d2 else U)):=⟨_,R rfl⟩;obtain⟨d5,cv⟩:∃b:ae,Hid (b=(bif (!d) then aa (!d2) else U)):=⟨_,R rfl⟩
   obtain⟨d6,cw⟩:∃b:ae,Hid (b= aa (d || (!d2))):=⟨_,R rfl⟩;refine bW (fin:= ?z9) [ad (D ⟨w.heap.size,5,F⟩), O (D ⟨p,ar,F⟩) ns cS, B o (i:Int), ad (D ⟨p,ar+i*4,F⟩), ad (D ⟨p,ar+i*4,F⟩), aq #[B o z.1.1, B o z.1.2.1, B o z.1.2.2], ad (D ⟨w.heap.size+1,5,F⟩), O (D ⟨b9,ay,F⟩) I aD, B o (i:Int), ad (D ⟨b9,ay+i*4,F⟩), ad (D ⟨b9,ay+i*4,F⟩), aq #[B o A.1.1, B o A.1.2.1, B o A.1.2.2], aa d, aa d,dQ,dR,dS,dT,dU,dV,dW,dX,dY,dZ,d1,d3,d4,d5,d6] ?hf bp (by kernel_rfl) rfl fun bq E=> ?_;case hf=>simp only[aT,a6,bd,ba,bc];exact rfl
   have s:=R E;obtain⟨af,an,bA,bB,bC,bD,bE,bG,bH,bI⟩:=la E af an bA bB bC bD bE bG bH bI;constructor
   ·iterate 29 refine⟨?_,fun K c=> ?_⟩
    ·trivial
    ·obtain rfl:=cw.out
     obtain rfl:=cv.out;generalize (!d2)=du at c |-;cases d <;> cases du <;> (go_simp;exact c _ s.out)
    ·obtain rfl:=cv.out
     obtain rfl:=cu.out;cases d <;> cases d2 <;> (go_simp;exact c _ s.out)
    ·obtain rfl:=cu.out
     obtain rfl:=ch.out;obtain rfl:=cq.out;cases d <;> first | (go_simp;exact c _ s.out;done) | (go_simp;exact aw (dv.out bq E) fun wc cJ=>c _ (ax E cJ))
    ·obtain rfl:=cq.out
     obtain rfl:=co.out;cases d <;> (go_simp;exact c _ s.out)
    ·obtain rfl:=co.out
     obtain rfl:=cl.out;cases d <;> (go_simp;exact c _ s.out)
    ·obtain rfl:=cl.out
     obtain rfl:=cj.out;obtain rfl:=ck.out;cases d <;> (go_simp;exact c _ s.out)
    ·obtain rfl:=ck.out
     cases d <;> (go_simp;exact c _ s.out)
    ·obtain rfl:=cj.out
     obtain rfl:=ci.out;cases d <;> (go_simp;exact c _ s.out)
    ·obtain rfl:=ci.out
     cases d <;> (go_simp;exact c _ s.out)
    ·obtain rfl:=ch.out
     obtain rfl:=cg.out;cases d <;> (go_simp;exact c _ s.out)
    ·obtain rfl:=cg.out
     obtain rfl:=cf.out;cases d <;> (go_simp;exact c _ s.out)
    ·obtain rfl:=cf.out
     obtain rfl:=cd.out;obtain rfl:=ce.out;cases d <;> (go_simp;exact c _ s.out)
    ·obtain rfl:=ce.out
     cases d <;> (go_simp;exact c _ s.out)
    ·obtain rfl:=cd.out
     obtain rfl:=cb.out;cases d <;> (go_simp;exact c _ s.out)
    ·obtain rfl:=cb.out
     cases d <;> (go_simp;exact c _ s.out)
    ·cases d <;> (go_simp;exact c _ s.out)
    iterate 13 (go_simp;exact c _ s.out)
   obtain rfl:=cw.out;clear cb cd ce cf cg ch ci cj ck cl co cq cu cv cw;have bl:=R (ax aK.out E);clear E di;obtain⟨G,a8⟩:=ai ((d || (!d2)));rw[<-a8];have bg:=R a8;clear a8
   cases G with
   | true=>
    have bu:=cC.out (by
     rintro rfl;have h1:=bg.out;rw[aS.out.1,aS.out.2] at h1;simp at h1)
    subst bu;go_wp2;go_ret;exact⟨rfl,ax (ax bJ.out cz.out) bl.out⟩
   | false=>
    have br:=cE.out (by
     have h1:=bg.out.symm;simp only[r9,Bool.not_eq_false'] at h1;have ab:=aS.out.1;have ag:=aS.out.2;rw[h1.1] at ab;rw[h1.2] at ag;exact Prod.ext (by simpa using ab) (of_decide_eq_true ag.symm))
    have cA:=R br;clear br;go_wp2;go_roundw
    case rel=>exact⟨i+1,by omega,by go_num,cA,bl⟩
    case measure=>simp[intOf];omega
  obtain rfl:i=ns:=by omega
  have bu:aZ=S:=cB.out.2 ⟨dw.out,by
   have h:=bi.out
   rwa [hU (by have:=bn.out.1;omega),hU (by have:=bn.out.2;have:=bm.out.2;omega)] at h⟩
  subst bu;go_wp2;go_ret;exact⟨rfl,ax (ax bJ.out cz.out) aK.out⟩
end
section
set_option maxRecDepth 100000
open Go.RowKit Go.Maps
theorem stack_walk(W H:Int)(Am Ac Ap As:Option cF)(nm cm nc cc np cp ns cS:Nat)(mask:List Int)(cs:List bw)(ms:List aR)(sts:List aP)(w:ac)(dw:Steps w)(dt:Rd w 1 Am nm (bF mask))(hc:Rd w 5 Ac nc (cr cs))(dv:Rd w 6 Ap np (b5 ms))(hst:en w As ns sts)(hAm:Am=F->cm=0)(hAc:Ac=F->cc=0)(hAp:Ap=F->cp=0)
    (hnm:nm*8<=140737488351232) (hnc:nc*40<=140737488351232) (hnp:np*48<=140737488351232) (hts:∀s ∈ sts,s.2.length*24<=140737488351232) (hns:ns*48<=140737488351232):
  Calls aj 3 #[aq #[B o W, B o H, O Am nm cm, O Ac nc cc, O Ap np cp, O As ns cS]] w fun e Z=>e= .returned (aa S)/\Below w.heap.size w Z:=by
 have dy:=aQ w (Y #[B o W, B o H, O Am nm cm, O Ac nc cc, O Ap np cp, O As ns cS] 29);have bv:=aV w (Y #[B o W, B o H, O Am nm cm, O Ac nc cc, O Ap np cp, O As ns cS] 29);obtain⟨a0,ao,a2,g,k,l⟩:=cx dy;have co:=dw.below bv;have cj:=dt.below bv;have ci:=hc.below bv;have ck:=dv.below bv;have cu:=hst.below bv;have dj:=fun(Z:ac) (a:Below (w.alloc (Y #[B o W, B o H, O Am nm cm, O Ac nc cc, O Ap np cp, O As ns cS] 29)).heap.size (w.alloc (Y #[B o W, B o H, O Am nm cm, O Ac nc cc, O Ap np cp, O As ns cS] 29)) Z)=>CH W H Am Ac Ap As nm cm nc cc np cp ns cS mask cs ms sts Z (cj.below a) (ci.below a) (ck.below a) (cu.below a) hnm hnc hnp hAm hAc hAp hts hns
 have di:=fun(Z:ac) (a:Below (w.alloc (Y #[B o W, B o H, O Am nm cm, O Ac nc cc, O Ap np cp, O As ns cS] 29)).heap.size (w.alloc (Y #[B o W, B o H, O Am nm cm, O Ac nc cc, O Ap np cp, O As ns cS] 29)) Z)=>CG W H Am Ac Ap As nm cm nc cc np cp ns cS mask cs ms sts Z (cj.below a) (ci.below a) (ck.below a) (cu.below a) (by omega) (by omega) (by omega);have dn:=fun(Z:ac) (a:Below (w.alloc (Y #[B o W, B o H, O Am nm cm, O Ac nc cc, O Ap np cp, O As ns cS] 29)).heap.size (w.alloc (Y #[B o W, B o H, O Am nm cm, O Ac nc cc, O Ap np cp, O As ns cS] 29)) Z) (I G M N:Option cF) (c1 c2 bV bC:Nat) (bQ:Rd Z 1 I nm (bF mask)) (bR:Rd Z 5 G nc (cr cs)) (bS:Rd Z 6 M np (b5 ms)) (bT:en Z N ns sts)=>AA W H I G M N nm c1 nc c2 np bV ns bC mask cs ms sts Z (co.below a) bQ bR bS bT (by omega) (by omega) (by omega)
 have dh:=fun(Z:ac) (a:Below (w.alloc (Y #[B o W, B o H, O Am nm cm, O Ac nc cc, O Ap np cp, O As ns cS] 29)).heap.size (w.alloc (Y #[B o W, B o H, O Am nm cm, O Ac nc cc, O Ap np cp, O As ns cS] 29)) Z) (I G M N:Option cF) (c1 c2 bV bC:Nat) (bQ:Rd Z 1 I nm (bF mask)) (bR:Rd Z 5 G nc (cr cs)) (bS:Rd Z 6 M np (b5 ms)) (bT:en Z N ns sts)=>CC W H I G M N nm c1 nc c2 np bV ns bC mask cs ms sts Z (co.below a) bQ bR bS bT (by omega) (by omega) (by omega);have cZ:=fun(Z:ac) (a:Below (w.alloc (Y #[B o W, B o H, O Am nm cm, O Ac nc cc, O Ap np cp, O As ns cS] 29)).heap.size (w.alloc (Y #[B o W, B o H, O Am nm cm, O Ac nc cc, O Ap np cp, O As ns cS] 29)) Z) (I G M N:Option cF) (c1 c2 bV bC:Nat) (bQ:Rd Z 1 I nm (bF mask)) (bR:Rd Z 5 G nc (cr cs)) (bS:Rd Z 6 M np (b5 ms)) (bT:en Z N ns sts) (hn:(I=F->c1=0)/\(G=F->c2=0))=>Dg W H I G M N nm c1 nc c2 np bV ns bC mask cs ms sts Z (co.below a) bQ bR bS bT hnm hnc hnp hn.1 hn.2
 obtain⟨bs,bE,cA,bD,bH,b3,bA,b2,ca,b8,bO,bP⟩:=rc dj di dn dh cZ bv (a7 hnm (a7 hnc hnp)) (a7 hAm hAc) cj ci ck cu;clear dj di dn dh cZ bv dw dt hc dv hst co cj ci ck cu dy hnm hnc hnp hAm hAc hAp hts hns;go_in
 go_wp2_with fail
 generalize w.alloc (Y #[B o W, B o H, O Am nm cm, O Ac nc cc, O Ap np cp, O As ns cS] 29)=w0 at a0 ao a2 g k l bs bE cA bD bH b3 ca b8 bO bP |-;refine(bs.out _ aX).mono ?_;rintro e eH ⟨I,c1,G,c2,M,bV,N,bC,rfl,aS,aO,aW,a1,aU,a⟩;replace a0:=V a0 a;replace ao:=V ao a;replace a2:=V a2 a;replace g:=V g a;replace k:=V k a;replace l:=V l a;obtain⟨c9,aJ,aH,aL,aM,bq⟩:=ft (a) aS aO aW a1 aU;clear aS aO aW a1 aU a
 go_wp2_with fail
 refine aw (cA.out _ c9.out I G M N c1 c2 bV bC aJ.out aH.out aL.out aM.out) fun eI a=> ?_;replace a0:=V a0 a;replace ao:=V ao a;replace a2:=V a2 a;replace g:=V g a;replace k:=V k a;replace l:=V l a;have b4:=R (ax c9.out a);clear a aJ aH aL aM bq cA
 cases bU:g7 W H mask cs ms sts with
 | false=>
   have bu:=R bU;clear bU bA b2 ca b8 bO bP
   go_wp2_with fail
   refine(bs.out _ b4.out).mono ?_;rintro e ei ⟨I,c1,G,c2,M,bV,N,bC,rfl,aS,aO,aW,a1,aU,a⟩;replace a0:=V a0 a;replace ao:=V ao a;replace a2:=V a2 a;replace g:=V g a;replace k:=V k a;replace l:=V l a;obtain⟨bI,aJ,aH,aL,aM,bq⟩:=ft (ax b4.out a) aS aO aW a1 aU;clear aS aO aW a1 aU;clear a bq
   go_wp2_with fail
   refine(bD.out _ bI.out I G M N c1 c2 bV bC aJ.out aH.out aL.out aM.out).mono ?_;rintro e ej ⟨a,⟨_,rfl⟩ | ⟨bi,_⟩⟩;case inr=>rw[bu.out] at bi;cases bi
   replace a0:=V a0 a;replace ao:=V ao a;replace a2:=V a2 a;replace g:=V g a;replace k:=V k a;replace l:=V l a;have bJ:=R (ax bI.out a);clear a aJ aH aL aM bD
   go_wp2_with fail
   refine(bs.out _ bJ.out).mono ?_;rintro e bZ ⟨I,c1,G,c2,M,bV,N,bC,rfl,aS,aO,aW,a1,aU,a⟩;replace a0:=V a0 a;replace ao:=V ao a;replace a2:=V a2 a;replace g:=V g a;replace k:=V k a;replace l:=V l a;obtain⟨bK,aJ,aH,aL,aM,bq⟩:=ft (ax bJ.out a) aS aO aW a1 aU;clear aS aO aW a1 aU a
   go_wp2_with fail
   refine(bH.out _ bK.out I G M N c1 c2 bV bC aJ.out aH.out aL.out aM.out bq.out).mono ?_;rintro e bB ⟨a,⟨_,rfl⟩ | ⟨bi,_⟩⟩;case inr=>rw[bu.out] at bi;cases bi
   replace a0:=V a0 a;replace ao:=V ao a;replace a2:=V a2 a;replace g:=V g a;replace k:=V k a;replace l:=V l a;have cD:=R (ax bK.out a);clear a aJ aH aL aM bq bH bs;have bt:=bE.out;rw[bu.out] at bt;have cw:=R bt;clear bt bE;have a0:=aD a0 (Y #[B o 0, B o 0, O F 0 0, O F 0 0, O F 0 0, O F 0 0] 29);have ao:=aD ao (Y #[B o 0, B o 0, O F 0 0, O F 0 0, O F 0 0, O F 0 0] 29);have a2:=aD a2 (Y #[B o 0, B o 0, O F 0 0, O F 0 0, O F 0 0, O F 0 0] 29);have g:=aD g (Y #[B o 0, B o 0, O F 0 0, O F 0 0, O F 0 0, O F 0 0] 29);have k:=aD k (Y #[B o 0, B o 0, O F 0 0, O F 0 0, O F 0 0, O F 0 0] 29)
   have l:=aD l (Y #[B o 0, B o 0, O F 0 0, O F 0 0, O F 0 0, O F 0 0] 29);have bY:=aQ bB (Y #[B o 0, B o 0, O F 0 0, O F 0 0, O F 0 0, O F 0 0] 29);obtain⟨ar,z1,av,ay,az,aA⟩:=cx bY;have bN:=R (aN cD.out (Y #[B o 0, B o 0, O F 0 0, O F 0 0, O F 0 0, O F 0 0] 29));clear bY
   go_wp2_with (first
     | (go_at_call 8;refine aw (cw.out _ bN.out) fun em r=> ?_;have b6:=R (ax bN.out r);replace a0:=V a0 r;replace ao:=V ao r;replace a2:=V a2 r;replace g:=V g r;replace k:=V k r;replace l:=V l r;replace ar:=V ar r;replace z1:=V z1 r;replace av:=V av r;replace ay:=V ay r;replace az:=V az r;replace aA:=V aA r;clear r)
     | (go_at_call 9;refine aw (uM _) fun c7 P=> ?_;have b7:=R (ax b6.out P);clear P)
     | fail)
   go_ret;exact⟨rfl,ax b3.out b7.out⟩
 | true=>
   have bu:=R bU;have cX:=CF.1 bU;obtain⟨y,E,rfl,rfl,cK,cJ,cP⟩:=A1 cX.lf;have bf:=CD cX cK cJ cP;have cW:eF w0 y E Am nm mask Ac nc cs:=⟨cK,cJ,cP,ca.out,b8.out,by have:=bA.out;omega⟩;obtain⟨L,hL⟩:=ai (bG y mask);have cG:=fun(Z:ac) (a:Below w0.heap.size w0 Z)=>xw y E Am Ac Ap As nm cm nc cc np cp ns cS mask cs L ms sts Z (cW.below a) hL.symm (by rw[hL];exact bf.l0) (bO.out.below a) (bP.out.below a) (by rw[hL];exact bf.jQ.maps) (by rw[hL];exact bf.low) (by rw[hL];exact bf.pos);have dm:=fun(Z:ac) (a:Below w0.heap.size w0 Z)=>Df y E Am Ac Ap As nm cm nc cc np cp ns cS mask cs ms sts L Z (cW.below a) hL.symm (by rw[hL];exact bf.jQ.eR) (by rw[hL];exact bf.jQ.bL) (by rw[hL];exact bf.jQ.small) (by rw[hL];exact bf.pos) (bO.out.below a) (bP.out.below a) (by rw[hL];exact bf.jQ.maps.len) bf.may bA.out.1 bA.out.2.1 b2.out.1 b2.out.2 (by rw[hL];exact bf.i8)
   obtain⟨bn,cH⟩:=ai (iC (d4 L ms cs (L.length*3)) (L.map (cy sts)));rw[<-cH] at cG;have dq:∀(b:Nat) (v:ae) (Z:ac),oM (y:Int) mask cs ms sts b v Z->Z.ownsRow b 44 5 v bn.length (cV bn)/\bn.length<=100000:=fun b v Z h=>by
     unfold oM at h;rw[Int.toNat_natCast,<-hL,<-cH] at h;exact h
   obtain⟨dJ,c8,dW,bz,dg⟩:=dY cG dm bf hL dq;clear bU cX cK cJ cP bf cW hL cG dm cH dq b2 ca b8 bO bP
   go_wp2_with fail
   refine(bs.out _ b4.out).mono ?_;rintro e ei ⟨I,c1,G,c2,M,bV,N,bC,rfl,aS,aO,aW,a1,aU,a⟩;replace a0:=V a0 a;replace ao:=V ao a;replace a2:=V a2 a;replace g:=V g a;replace k:=V k a;replace l:=V l a;obtain⟨bI,aJ,aH,aL,aM,bq⟩:=ft (ax b4.out a) aS aO aW a1 aU;clear aS aO aW a1 aU;clear a bq
   go_wp2_with fail
   refine(bD.out _ bI.out I G M N c1 c2 bV bC aJ.out aH.out aL.out aM.out).mono ?_;rintro e ej ⟨a,⟨hF,_⟩ | ⟨_,eE,rfl,dr⟩⟩;case inl=>rw[bu.out] at hF;cases hF
   obtain⟨cR,ew⟩:=dg.out _ _ _ dr;obtain⟨eo,cl,c0,ea,_⟩:=dd cR;subst c0;replace a0:=V a0 a;replace ao:=V ao a;replace a2:=V a2 a;replace g:=V g a;replace k:=V k a;replace l:=V l a;obtain⟨bJ,be⟩:=aY (ax bI.out a) cR;clear a cR dr ea aJ aH aL aM bD dg
   go_wp2_with fail
   refine(bs.out _ bJ.out).mono ?_;rintro e bZ ⟨I,c1,G,c2,M,bV,N,bC,rfl,aS,aO,aW,a1,aU,a⟩;replace a0:=V a0 a;replace ao:=V ao a;replace a2:=V a2 a;replace g:=V g a;replace k:=V k a;replace l:=V l a;obtain⟨bK,aJ,aH,aL,aM,bq⟩:=ft (ax bJ.out a) aS aO aW a1 aU;clear aS aO aW a1 aU;replace be:=R (bo be.out a);clear a
   go_wp2_with fail
   have dk:=bH.out _ bK.out I G M N c1 c2 bV bC aJ.out aH.out aL.out aM.out bq.out;have dl:Calls aj 7 #[aq #[B o y, B o E, O I nm c1, O G nc c2, O M np bV, O N ns bC]] bZ fun e Z=>Below bZ.heap.size bZ Z/\∃(bk bl:Int) (aB aC aE aG:Option cF) (bg a3 bh a4 bj a5 a9 a8:Nat) (cf:Int),e= .returned (.tuple #[aq #[B o bk, B o bl, O aB bg a3, O aC bh a4, O aE bj a5, O aG a9 a8], B o cf])/\((¬(∀i,i < L.length->gH L ms i)/\cf=2/\Value.agg #[B o bk, B o bl, O aB bg a3, O aC bh a4, O aE bj a5, O aG a9 a8]= aq #[B o 0, B o 0, O F 0 0, O F 0 0, O F 0 0, O F 0 0])∨((∀i,i < L.length->gH L ms i)/\cf=0/\qD bZ y E mask nm nc cs ms L sts (aq #[B o bk, B o bl, O aB bg a3, O aC bh a4, O aE bj a5, O aG a9 a8]) Z)):=by
     refine dk.mono ?_;rintro e Z ⟨a,⟨hF,_⟩ | ⟨_,d5,d3,eq,ap,ak,J,h⟩⟩;· rw[bu.out] at hF;cases hF
     obtain rfl:y=d5:=Int.ofNat.inj ap;obtain rfl:E=d3:=Int.ofNat.inj ak;rw[Int.toNat_natCast,<-bz.out] at J;subst J;refine⟨a, ?_⟩;rcases h with ⟨h1,rfl⟩ | ⟨h1,v,rfl,ab⟩
     · exact⟨_,_,_,_,_,_,_,_,_,_,_,_,_,_,_,rfl, .inl ⟨h1,rfl,rfl⟩⟩
     obtain⟨dM,d1,dK,d2,dN,d7,dP,n,d8,hn,cY,eA⟩:=id ab;subst cY;exact⟨_,_,_,_,_,_,_,_,_,_,_,_,_,_,_,rfl, .inr ⟨h1,rfl,ab⟩⟩
   clear dk;refine dl.mono ?_;clear dl;rintro e bB ⟨a,bk,bl,aB,aC,aE,aG,bg,a3,bh,a4,bj,a5,a9,a8,cf,rfl,dx⟩;replace a0:=V a0 a;replace ao:=V ao a;replace a2:=V a2 a;replace g:=V g a;replace k:=V k a;replace l:=V l a;replace be:=R (bo be.out a);obtain⟨cD,ce⟩:=aY (ax bK.out a) dx;have eC:=a.size;clear a dx aJ aH aL aM bq bH bs;have bt:=bE.out;rw[bu.out] at bt;have cw:=R bt;clear bt bE;have a0:=aD a0 (Y #[B o bk, B o bl, O aB bg a3, O aC bh a4, O aE bj a5, O aG a9 a8] 29);have ao:=aD ao (Y #[B o bk, B o bl, O aB bg a3, O aC bh a4, O aE bj a5, O aG a9 a8] 29);have a2:=aD a2 (Y #[B o bk, B o bl, O aB bg a3, O aC bh a4, O aE bj a5, O aG a9 a8] 29)
   have g:=aD g (Y #[B o bk, B o bl, O aB bg a3, O aC bh a4, O aE bj a5, O aG a9 a8] 29);have k:=aD k (Y #[B o bk, B o bl, O aB bg a3, O aC bh a4, O aE bj a5, O aG a9 a8] 29);have l:=aD l (Y #[B o bk, B o bl, O aB bg a3, O aC bh a4, O aE bj a5, O aG a9 a8] 29);have bY:=aQ bB (Y #[B o bk, B o bl, O aB bg a3, O aC bh a4, O aE bj a5, O aG a9 a8] 29);obtain⟨ar,z1,av,ay,az,aA⟩:=cx bY;obtain⟨bN,dc⟩:=aY (aN cD.out (Y #[B o bk, B o bl, O aB bg a3, O aC bh a4, O aE bj a5, O aG a9 a8] 29)) (aV bB (Y #[B o bk, B o bl, O aB bg a3, O aC bh a4, O aE bj a5, O aG a9 a8] 29));replace be:=R (bo be.out dc.out)
   clear bY
   go_wp2_with (first
     | (go_at_call 8;refine aw (cw.out _ bN.out) fun em r=> ?_;have b6:=R (ax bN.out r);have de:=R (ax dc.out r);replace be:=R (bo be.out r);replace a0:=V a0 r;replace ao:=V ao r;replace a2:=V a2 r;replace g:=V g r;replace k:=V k r;replace l:=V l r;replace ar:=V ar r;replace z1:=V z1 r;replace av:=V av r;replace ay:=V ay r;replace az:=V az r;replace aA:=V aA r;clear r)
     | (go_at_call 10;refine(dJ.out _ b6.out).mono ?_;rintro e c7 ⟨eG,rfl,cT,P⟩;obtain⟨ep,d6,c3,eb,_⟩:=dd cT;subst c3;have cE:=R cT;have b7:=R (ax b6.out P);have df:=R (ax de.out P);replace be:=R (bo be.out P);replace a0:=V a0 P;replace ao:=V ao P;replace a2:=V a2 P;replace g:=V g P;replace k:=V k P;replace l:=V l P;replace ar:=V ar P;replace z1:=V z1 P;replace av:=V av P;replace ay:=V ay P;replace az:=V az P;replace aA:=V aA P;clear P cT eb)
     | fail)
   go_loopw [9] (fun v wr=>∃i:Nat,i<=bn.length/\v= B o i/\Hid (Below c7.heap.size c7 wr)) (fun v _=>bn.length-(intOf v).toNat)
   case atStart=>exact⟨0,by omega,rfl,R aX⟩
   obtain⟨i,al,rfl,aK⟩:=hrel;obtain⟨eJ,rfl⟩:=ai wr;by_cases ec:i < bn.length
   · obtain⟨c,hc⟩:∃c,bn[i]? =D c:=⟨_,bb ec⟩
     obtain⟨aF,es,eu,c0,_,_,_,_⟩:=dF (bo be.out aK.out) (by omega);cases c0
     obtain⟨dp,et,ev,c3,_,_,_,_⟩:=dF (bo cE.out aK.out) (by omega);cases c3
     obtain⟨p0,cz,b9,dZ,dO⟩:=sR (bo be.out aK.out) hc;obtain⟨q0,aZ,bm,c5,c6⟩:=sR (bo cE.out aK.out) hc;have ey:(i:Int) < (bn.length:Int):=by omega
     have ex:(0:Int)<=(i:Int):=by omega
     have eD:IntKind.i64.wrap ((i:Int)+1)=((i+1:Nat):Int):=by rw[IntWalk.i64_in _ (by omega)];omega
     clear hc;go_upto_region 12 with fail
     refine bW (fin:= ?z1) [O (D ⟨aF,0,F⟩) bn.length cl, B o (i:Int), ad (D ⟨aF,i*5,F⟩), aq #[B o c.1.1, B o c.1.2.1, B o c.1.2.2.1, B o c.1.2.2.2, B o c.2], O (D ⟨dp,0,F⟩) bn.length d6, B o (i:Int), ad (D ⟨dp,i*5,F⟩), aq #[B o c.1.1, B o c.1.2.1, B o c.1.2.2.1, B o c.1.2.2.2, B o c.2], aa Q] ?hf bp (by kernel_rfl) rfl fun er cM=> ?_;case hf=>simp only[aT,a6,bd,ba,bc];exact rfl
     have dX:=R cM;obtain⟨p0,cz,b9,dZ,dO,q0,aZ,bm,c5,c6⟩:=la cM p0 cz b9 dZ dO q0 aZ bm c5 c6;constructor
     ·iterate 9 refine⟨?_,fun K d9=> ?_⟩
      · trivial
      all_goals try (go_simp;exact d9 _ dX.out;done)
     have dV:=R (ax aK.out cM);clear p0 cz b9 dZ dO q0 aZ bm c5 c6;go_wp2;go_roundw
     case rel=>exact⟨i+1,by omega,by first | rfl | go_num,dV⟩
     case measure=>simp[intOf];omega
   obtain rfl:i=bn.length:=by omega
   replace a0:=V a0 aK.out;replace ao:=V ao aK.out;replace a2:=V a2 aK.out;replace g:=V g aK.out;replace k:=V k aK.out;replace l:=V l aK.out;replace ar:=V ar aK.out;replace z1:=V z1 aK.out;replace av:=V av aK.out;replace ay:=V ay aK.out;replace az:=V az aK.out;replace aA:=V aA aK.out;obtain⟨da,dR⟩:=aY (ax b7.out aK.out) (ax df.out aK.out);clear aK b7 df de be cE
   go_wp2_with fail
   refine(c8.out _ da.out).mono ?_;rintro e cv ⟨a,eg⟩;replace a0:=V a0 a;replace ao:=V ao a;replace a2:=V a2 a;replace g:=V g a;replace k:=V k a;replace l:=V l a;replace ar:=V ar a;replace z1:=V z1 a;replace av:=V av a;replace ay:=V ay a;replace az:=V az a;replace aA:=V aA a;obtain⟨db,dT⟩:=aY (ax da.out a) (ax dR.out a);have eB:=a.size;clear a c8;rcases eg with ⟨cQ,v,rfl,rfl⟩ | ⟨hall,v,rfl,ed⟩
   · rcases ce.out with ⟨_,cI,cL⟩ | ⟨hall,_⟩
     case inr=>exact absurd hall cQ
     subst cI;cases cL
     clear ce;have a0:=aD a0 (Y #[B o 0, B o 0, O F 0 0, O F 0 0, O F 0 0, O F 0 0] 29);have ao:=aD ao (Y #[B o 0, B o 0, O F 0 0, O F 0 0, O F 0 0, O F 0 0] 29);have a2:=aD a2 (Y #[B o 0, B o 0, O F 0 0, O F 0 0, O F 0 0, O F 0 0] 29);have g:=aD g (Y #[B o 0, B o 0, O F 0 0, O F 0 0, O F 0 0, O F 0 0] 29);have k:=aD k (Y #[B o 0, B o 0, O F 0 0, O F 0 0, O F 0 0, O F 0 0] 29);have l:=aD l (Y #[B o 0, B o 0, O F 0 0, O F 0 0, O F 0 0, O F 0 0] 29);have ar:=aD ar (Y #[B o 0, B o 0, O F 0 0, O F 0 0, O F 0 0, O F 0 0] 29)
     have z1:=aD z1 (Y #[B o 0, B o 0, O F 0 0, O F 0 0, O F 0 0, O F 0 0] 29);have av:=aD av (Y #[B o 0, B o 0, O F 0 0, O F 0 0, O F 0 0, O F 0 0] 29);have ay:=aD ay (Y #[B o 0, B o 0, O F 0 0, O F 0 0, O F 0 0, O F 0 0] 29);have az:=aD az (Y #[B o 0, B o 0, O F 0 0, O F 0 0, O F 0 0, O F 0 0] 29);have aA:=aD aA (Y #[B o 0, B o 0, O F 0 0, O F 0 0, O F 0 0, O F 0 0] 29);have cB:=R (aN db.out (Y #[B o 0, B o 0, O F 0 0, O F 0 0, O F 0 0, O F 0 0] 29))
     go_wp2_with (go_at_call 9;refine aw (uM _) fun eh bX=> ?_;have cC:=R (ax cB.out bX);clear bX)
     go_ret;exact⟨rfl,ax b3.out cC.out⟩
   rcases ce.out with ⟨cQ,_⟩ | ⟨_,cI,cL⟩
   case inl=>exact absurd hall cQ
   subst cI;obtain⟨dM,d1,dK,d2,dN,d7,dP,n,d8,hn,cY,cN,ct,ee,dA⟩:=cL;cases cY
   obtain⟨af,ap,T,ak,ag,J,ah,an,am,du,ef,dC,dE,dG,dH⟩:=ed;subst ef;have br:=dW.out;have bx:=yR (A:=fun i=>dD (ek (ms.getD i zeroV)) (L.getD i el)) (aI:=(L.map (cy sts)).map fun z=>-z) (by rw[bz.out];exact br.jQ.eR) (by rw[bz.out];exact Dh br.jQ.eR br.jQ.bL br.jQ.maps br.dS) (by rw[bz.out];exact br.jQ.bL) (by rw[bz.out];exact br.l0) (fun i al=>(hall i al).2);have cb:=R (a7 cN (a7 ct (a7 ee (dA.rd hn bx.1 bx.2.1 (by have:=bx.2.2;omega)))));have cd:=R (a7 dC (a7 dE (a7 dG (dH.rd du bx.1 bx.2.1 (by have:=bx.2.2;omega)))));have ez:L.length<=300:=by rw[bz.out];exact br.l0
   clear ce cN ct ee dA dC dE dG dH bx br hn du;have a0:=aD a0 (Y #[B o (y:Int), B o (E:Int), O af nm ap, O T nc ak, O ag L.length J, O ah an am] 29);have ao:=aD ao (Y #[B o (y:Int), B o (E:Int), O af nm ap, O T nc ak, O ag L.length J, O ah an am] 29);have a2:=aD a2 (Y #[B o (y:Int), B o (E:Int), O af nm ap, O T nc ak, O ag L.length J, O ah an am] 29);have g:=aD g (Y #[B o (y:Int), B o (E:Int), O af nm ap, O T nc ak, O ag L.length J, O ah an am] 29);have k:=aD k (Y #[B o (y:Int), B o (E:Int), O af nm ap, O T nc ak, O ag L.length J, O ah an am] 29);have l:=aD l (Y #[B o (y:Int), B o (E:Int), O af nm ap, O T nc ak, O ag L.length J, O ah an am] 29)
   have ar:=aD ar (Y #[B o (y:Int), B o (E:Int), O af nm ap, O T nc ak, O ag L.length J, O ah an am] 29);have z1:=aD z1 (Y #[B o (y:Int), B o (E:Int), O af nm ap, O T nc ak, O ag L.length J, O ah an am] 29);have av:=aD av (Y #[B o (y:Int), B o (E:Int), O af nm ap, O T nc ak, O ag L.length J, O ah an am] 29);have ay:=aD ay (Y #[B o (y:Int), B o (E:Int), O af nm ap, O T nc ak, O ag L.length J, O ah an am] 29);have az:=aD az (Y #[B o (y:Int), B o (E:Int), O af nm ap, O T nc ak, O ag L.length J, O ah an am] 29);have aA:=aD aA (Y #[B o (y:Int), B o (E:Int), O af nm ap, O T nc ak, O ag L.length J, O ah an am] 29)
   obtain⟨cB,dU,dQ⟩:=cq (aN db.out (Y #[B o (y:Int), B o (E:Int), O af nm ap, O T nc ak, O ag L.length J, O ah an am] 29)) (aN dT.out (Y #[B o (y:Int), B o (E:Int), O af nm ap, O T nc ak, O ag L.length J, O ah an am] 29)) (aV cv (Y #[B o (y:Int), B o (E:Int), O af nm ap, O T nc ak, O ag L.length J, O ah an am] 29));have dz:=aQ cv (Y #[B o (y:Int), B o (E:Int), O af nm ap, O T nc ak, O ag L.length J, O ah an am] 29);obtain⟨eK,eL,eM,eN,eO,eP⟩:=cx dz;clear dz;have eW:=fun(Z:ac) (ch:Below bB.heap.size bB Z) (cg:Below cv.heap.size cv Z)=>B9 y E y E aB aC aE aG af T ag ah nm a3 nc a4 L.length a5 a9 a8 nm ap nc ak L.length J an am mask mask cs cs (dL ms) (dL ms) _ _ Z ((Rd.dB cb.out.1).below ch) ((Rd.dB cb.out.2.1).below ch) ((Rd.dB cb.out.2.2.1).below ch) (cb.out.2.2.2.below ch) ((Rd.dB cd.out.1).below cg) ((Rd.dB cd.out.2.1).below cg) ((Rd.dB cd.out.2.2.1).below cg) (cd.out.2.2.2.below cg) (by have:=bA.out;omega) (by have:=bA.out;omega) (by omega)
   have dI:=R eW;clear eW
   go_wp2_with (go_at_call 12;refine aw (dI.out _ dU.out dQ.out) fun eh bX=> ?_;have cC:=R (ax cB.out bX);clear bX)
   go_ret;exact⟨by simp,ax b3.out cC.out⟩
end
section
set_option maxRecDepth 100000
open Go.ChangeShapes Go.WideShapes Go.ChangeAt Go.RowKit Go.Joins
theorem qF(a:cF)(i j:Nat):(a.add i).add j=a.add (i+j):=by
 obtain⟨b,af,s⟩:=a;by_cases al:i=0 <;> by_cases g:j=0 <;> cases s <;> simp[Addr.add,al,g,Nat.add_assoc]
section
variable {H:Type} {enc:TypeId×ae->H} {w:ac} {r:Nat} {E:Nat->Bool} {held:Bool}
theorem hD{m:Nat}{c:ae}{y:DataW H×List MemPlace}(h:hd enc aj w r E held m 3 [c]=D y):∃a,c= .int o a/\(Lit.int o a).wf=S:=by
 obtain⟨a,e,_,wf⟩:=sb Tryz.underlying3 h;simp only[oF,and_true] at e;exact⟨a,e,wf⟩
theorem vd{m:Nat}{a1 c1:ae}{y:DataW H×List MemPlace}(h:hd enc aj w r E held m 40 [a1,c1]=D y):
  ∃a b,a1= .int o a/\c1= .int o b:=by
 obtain⟨K,n,_,_,_,_,hf⟩:=lm Tryz.underlying40 h;have e:Tryz.prog.cellsOf 3=1:=by kernel_rfl
 have h0:=hf 0 _ rfl;have h1:=hf 1 _ rfl;simp only[lv,lu,ls] at h0 h1;rw[e] at h0 h1;simp only[lr,lq,ly,kL] at h0 h1;have av:K.length=2:=by assumption
 obtain⟨a,rfl,_⟩:=hD (h0.trans (bb (by omega)));obtain⟨b,rfl,_⟩:=hD (h1.trans (bb (by omega)));exact⟨a,b,rfl,rfl⟩
theorem Ak{ah:Type}{l:List ah}(h:l.length=4):∃a b c d,l= [a,b,c,d]:=by
 match l,h with
 | [a,b,c,d],_=>exact⟨a,b,c,d,rfl⟩
theorem Al{ah:Type}{l:List ah}(h:l.length=5):∃a b c d e,l= [a,b,c,d,e]:=by
 match l,h with
 | [a,b,c,d,e],_=>exact⟨a,b,c,d,e,rfl⟩
theorem x9{m:Nat}{a1 c1 c2 bV:ae}{y:DataW H×List MemPlace}(h:hd enc aj w r E held m 42 [a1,c1,c2,bV]=D y):
  ∃a b c d:Int,a1= .int o a/\c1= .int o b/\c2= .int o c/\bV= .int o d:=by
 obtain⟨K,n,_,_,_,av,J⟩:=lm Tryz.underlying42 h;have e:Tryz.prog.cellsOf 40=2:=by kernel_rfl
 have h0:=J 0 _ rfl;have h1:=J 1 _ rfl;simp only[lv,lu,ls] at h0 h1;rw[e] at h0 h1;simp only[lr,lq,ly,kL] at h0 h1;have av:K.length=2:=by assumption
 obtain⟨a,b,rfl,rfl⟩:=vd (h0.trans (bb (by omega)));obtain⟨c,e,rfl,rfl⟩:=vd (h1.trans (bb (by omega)));exact⟨a,b,c,e,rfl,rfl,rfl,rfl⟩
theorem xY{m:Nat}{cs:List ae}{y:DataW H×List MemPlace}(h:hd enc aj w r E held m 129 cs=D y):
  ∃c:bw,cs= [.int o c.1.1, .int o c.1.2.1, .int o c.1.2.2.1, .int o c.1.2.2.2, .int o c.2]:=by
 obtain⟨K,n,_,_,aw,av,J⟩:=lm Tryz.underlying129 h;obtain⟨a1,c1,c2,bV,bC,rfl⟩:=Al (aw.trans (show Tryz.prog.cellsOf 129=5 by kernel_rfl));have e:Tryz.prog.cellsOf 42=4:=by kernel_rfl
 have ap:Tryz.prog.cellsOf 3=1:=by kernel_rfl
 have h0:=J 0 _ rfl;have h1:=J 1 _ rfl;simp only[lv,lu,ls] at h0 h1;rw[e] at h0;rw[ap] at h1;simp only[lr,lq,ly,kL] at h0 h1;have av:K.length=2:=by assumption
 obtain⟨a,b,c,d,rfl,rfl,rfl,rfl⟩:=x9 (h0.trans (bb (by omega)));obtain⟨k,rfl,_⟩:=hD (h1.trans (bb (by omega)));exact⟨((a,b,c,d),k),rfl⟩
theorem xb:∀(n:Nat) (f:Nat->bw),∃cs:List bw,cs.length=n/\∀i,i < n->cs[i]? =D (f i):=by
 intro n f;exact⟨(c4 n).map f,by simp,fun i al=>by simp[al]⟩
theorem sL(cs:List bw):(cr cs).length=cs.length*5:=by
 induction cs with
 | nil=>rfl
 | cons c cs aB=>simp[cr] at aB |-;omega
theorem sM:∀{cs:List bw} {i j:Nat} {c:bw},cs[i]? =D c->j < 5->(cr cs)[i*5+j]? = [qf o c.1.1, .int o c.1.2.1, .int o c.1.2.2.1, .int o c.1.2.2.2, .int o c.2][j]?
 | [],i,j,c,h,_=>by simp at h
 | a::l,0,j,c,h,g=>by
  simp at h;subst h;have e:cr (a::l)= [qf o a.1.1, .int o a.1.2.1, .int o a.1.2.2.1, .int o a.1.2.2.2, .int o a.2]++cr l:=rfl;rw[e,hS (by simp;omega)];simp
 | a::l,i+1,j,c,h,g=>by
  have:=sM (cs:=l) (i:=i) (j:=j) (c:=c) (by simpa using h) g;have e:cr (a::l)= [qf o a.1.1, .int o a.1.2.1, .int o a.1.2.2.1, .int o a.1.2.2.2, .int o a.2]++cr l:=rfl;rw[e,kK (by simp;omega),<-this]
  congr 1
  simp;omega
theorem Bu{fuel:Nat}{cs:List ae}{x:DataW H×List MemPlace}(h:hd enc aj w r E held fuel 23 cs=D x):
  ∃(A:Option cF) (n c:Nat) (l:List bw),cs= [.slice A n c]/\Rd w 5 A n (cr l)/\(A=F->c=0)/\((x.1= .nil/\n=0)∨∃G V,x.1= .slice G V/\G.length=n):=by
 rcases sc Tryz.underlying23 h with ⟨rfl,rfl⟩ | ⟨a,len,L,ao,rest,m,_,rfl,rfl,ar,av,ay,N,I,_,_⟩
 ·exact⟨F,0,0, [],rfl,Rd.nil,fun _=>rfl, .inl ⟨rfl,rfl⟩⟩
 have an:Tryz.prog.cellsOf 129=5:=by kernel_rfl
 rw[an] at I;have M:∀i,∃c:bw,i < len->∀j,j < 5->w.cell? (a.add (i*5+j))= [qf o c.1.1, .int o c.1.2.1, .int o c.1.2.2.1, .int o c.1.2.2.2, .int o c.2][j]? :=by
  intro i;by_cases al:i < len
  ·have h1:=I i al
   rw[bb (by omega)] at h1;rw[ss] at h1;obtain⟨q,ab,ag⟩:=h1;obtain⟨c,rfl⟩:=xY ag;refine⟨c,fun _ j g=> ?_⟩;have az:=(si ab).2.2 j g;rw[<-qF];exact az
  ·exact⟨((0,0,0,0),0),fun h=>absurd h al⟩
 obtain⟨f,hf⟩:=sa M;obtain⟨l,ak,ax⟩:=xb len f;refine⟨D a,len,L,l,rfl,⟨by rw[sL,ak],fun P=> ?_⟩,fun h=>(by cases h), .inr ⟨_,_,rfl,by simp[N]⟩⟩;have h0:=hf 0 P 0 (by decide);obtain⟨b,T,Z⟩:=a;have R:Z=F:=by simpa[Addr.add] using sh h0
 subst R;refine⟨b,T,rfl,iS w _ h0,fun j u z=> ?_⟩;have g:j < len*5:=by
  have:=(bM.1 z).1;rw[sL,ak] at this;exact this
 have am:j / 5 < len:=by omega
 have h1:=hf (j / 5) am (j % 5) (by omega);rw[show j / 5*5+j % 5=j by omega,fW] at h1;rw[h1,<-sM (ax (j / 5) am) (by omega),show j / 5*5+j % 5=j by omega];exact z
theorem Bw{fuel:Nat}{cs:List ae}{x:DataW H×List MemPlace}(h:hd enc aj w r E held fuel 22 cs=D x):
  ∃(A:Option cF) (n c:Nat) (l:List Int),cs= [.slice A n c]/\Rd w 1 A n (bF l)/\(A=F->c=0)/\((x.1= .nil/\n=0)∨∃G V,x.1= .slice G V/\G.length=n):=by
 rcases sc Tryz.underlying22 h with ⟨rfl,rfl⟩ | ⟨a,len,L,ao,rest,m,_,rfl,rfl,ar,av,ay,N,I,_,_⟩
 ·exact⟨F,0,0, [],rfl,Rd.nil,fun _=>rfl, .inl ⟨rfl,rfl⟩⟩
 have ap:Tryz.prog.cellsOf 3=1:=by kernel_rfl
 rw[ap] at I;have M:∀i,∃c:Int,i < len->w.cell? (a.add i)=D (.int o c):=by
  intro i;by_cases al:i < len
  ·have h1:=I i al
   rw[bb (by omega)] at h1;rw[ss] at h1;obtain⟨q,ab,ag⟩:=h1;obtain⟨_,aA,az⟩:=si ab
   match q,aA with
   | [u],_=>
    obtain⟨c,rfl,_⟩:=hD ag;refine⟨c,fun _=> ?_⟩;have ai:=az 0 (by decide);rw[qF,show i*1+0=i by omega] at ai;exact ai
  ·exact⟨0,fun h=>absurd h al⟩
 obtain⟨f,hf⟩:=sa M;refine⟨D a,len,L,(c4 len).map f,rfl,⟨by simp,fun P=> ?_⟩,fun h=>(by cases h), .inr ⟨_,_,rfl,by simp[N]⟩⟩;have h0:=hf 0 P;obtain⟨b,T,Z⟩:=a;have R:Z=F:=by simpa[Addr.add] using sh h0
 subst R;refine⟨b,T,rfl,iS w _ h0,fun j u z=> ?_⟩;have g:j < len:=by
  have:=(bM.1 z).1;simpa using this
 have h1:=hf j g;rw[fW] at h1;rw[h1];simp[g] at z;rw[z]
end
end
section
set_option maxRecDepth 100000
open Go.ChangeShapes Go.WideShapes Go.ChangeAt Go.RowKit Go.Joins
theorem tu{Z:Type}{f:Z->List ae}{k:Nat}(hf:∀b,(f b).length=k):∀{l:List Z} {i j:Nat} {b:Z},l[i]? =D b->j < k->(l.flatMap f)[i*k+j]? =(f b)[j]?
 | [],i,j,b,h,_=>by simp at h
 | a::l,0,j,b,h,ay=>by
  simp at h;subst h;rw[mx,hS (by rw[hf];omega)];simp
 | a::l,i+1,j,b,h,ay=>by
  have:=tu hf (l:=l) (i:=i) (j:=j) (b:=b) (by simpa using h) ay;rw[mx,kK (by rw[hf,qt];omega),hf,<-this]
  congr 1
  rw[qt];omega
theorem q5{Z:Type}{f:Z->List ae}{k:Nat}(hf:∀b,(f b).length=k):∀(l:List Z),(l.flatMap f).length=l.length*k
 | []=>by simp
 | a::l=>by
  rw[mx,List.length_append,hf,q5 hf l,List.length_cons,qt];omega
theorem ri{z:Int}(h:(Lit.int o z).wf=S):bj z:=by
 unfold bj;simp[Lit.wf,IntKind.min,IntKind.max,IntKind.signed,IntKind.bits] at h;omega
section
variable {H:Type} {enc:TypeId×ae->H} {w:ac} {ai:Nat} {am:Nat->Bool} {held:Bool}
theorem rG{Z:Type}{k:Nat}{T E:TypeId}(bi:Tryz.prog.underlying T=D (.slice E))(L:Tryz.prog.cellsOf E=k)(aW:0 < k)(f:Z->List ae)(hf:∀b,(f b).length=k)(aL:Z->DataW H->Prop)(z:Z)
  (bp:∀m cs y,hd enc aj w ai am held m E cs=D y->∃b,cs=f b/\aL b y.1) {fuel:Nat} {cs:List ae} {x:DataW H×List MemPlace} (h:hd enc aj w ai am held fuel T cs=D x):
  ∃(A:Option cF) (n c:Nat) (l:List Z),cs= [.slice A n c]/\l.length=n/\Rd w k A n (l.flatMap f)/\(A=F->c=0)/\n<=c/\((x.1= .nil/\n=0)∨∃K M,x.1= .slice K M/\K.length=n/\∀(i:Nat) (b:Z),l[i]? =D b->∃d,K[i]? =D d/\aL b d):=by
 rcases sc bi h with ⟨rfl,rfl⟩ | ⟨a,len,a8,bf,rest,m,_,rfl,rfl,N,av,bP,br,aH,_,_⟩
 ·exact⟨F,0,0, [],rfl,rfl,Rd.nil,fun _=>rfl,ce, .inl ⟨rfl,rfl⟩⟩
 rw[L] at aH;have be:∀i,∃b:Z,i < len->(∀j,j < k->w.cell? (a.add (i*k+j))=(f b)[j]?)/\∃d,(bf.map (·.1))[i]? =D d/\aL b d:=by
  intro i;by_cases al:i < len
  ·have h1:=aH i al
   rw[bb (by omega)] at h1;rw[ss] at h1;obtain⟨q,ab,ag⟩:=h1;obtain⟨b,rfl,aE⟩:=bp _ _ _ ag;refine⟨b,fun _=>⟨fun j ay=> ?_,_,by rw[jr,bb (by omega)];rfl,aE⟩⟩;have az:=(si ab).2.2 j ay;rw[<-qF];exact az
  ·exact⟨z,fun h=>absurd h al⟩
 obtain⟨g,I⟩:=sa be;refine⟨D a,len,a8,(c4 len).map g,rfl,by simp,⟨by rw[q5 hf];simp,fun aE=> ?_⟩,fun h=>(by cases h),av, .inr ⟨_,_,rfl,by simp[br],fun i b al=> ?_⟩⟩
 ·have h0:=(I 0 aE).1 0 aW
  obtain⟨v0,bJ⟩:∃v0,(f (g 0))[0]? =D v0:=⟨_,bb (by rw[hf];exact aW)⟩;rw[bJ] at h0;obtain⟨b,bN,bO⟩:=a;have bG:bO=F:=by simpa[Addr.add] using sh h0
  subst bG;refine⟨b,bN,rfl,by rw[fW] at h0;exact iS w _ h0,fun j u a4=> ?_⟩;have ay:j < len*k:=by
   have:=(bM.1 a4).1;rw[q5 hf] at this;simpa using this
  have a2:j / k < len:=Nat.div_lt_of_lt_mul (by rw[Nat.mul_comm];exact ay);have aJ:j % k < k:=Nat.mod_lt _ aW;have aY:j / k*k+j % k=j:=by rw[Nat.mul_comm];exact Nat.div_add_mod j k
  have h1:=(I (j / k) a2).1 (j % k) aJ;rw[aY,fW] at h1;rw[h1,<-tu hf (l:=(c4 len).map g) (i:=j / k) (b:=g (j / k)) (by simp[a2]) aJ,aY];exact a4
 have aV:=(bM.1 al).1;simp at aV;simp[aV] at al;subst al;exact(I i aV).2
theorem vS{m:Nat}{cs:List ae}{y:DataW H×List MemPlace}(h:hd enc aj w ai am held m 53 cs=D y):
  ∃t:ah,cs= [.int o t.1, .int o t.2.1, .int o t.2.2]/\bj t.1/\bj t.2.1/\bj t.2.2:=by
 obtain⟨V,n,_,_,aC,av,I⟩:=lm Tryz.underlying53 h;have aD:=aC.trans (show Tryz.prog.cellsOf 53=3 by kernel_rfl);obtain⟨a1,c1,c2,rfl⟩:∃a b c,cs= [a,b,c]:=by
  match cs,aD with
  | [a,b,c],_=>exact⟨a,b,c,rfl⟩
 have ap:Tryz.prog.cellsOf 3=1:=by kernel_rfl
 have h0:=I 0 _ rfl;have h1:=I 1 _ rfl;have ab:=I 2 _ rfl;simp only[lv,lu,ls] at h0 h1 ab;rw[ap] at h0 h1 ab;simp only[lr,lq,ly,kL] at h0 h1 ab;have av:V.length=3:=by assumption
 obtain⟨a,rfl,bh⟩:=hD (h0.trans (bb (by omega)));obtain⟨b,rfl,N⟩:=hD (h1.trans (bb (by omega)));obtain⟨c,rfl,hc⟩:=hD (ab.trans (bb (by omega)));exact⟨(a,b,c),rfl,ri bh,ri N,ri hc⟩
theorem Aw{m:Nat}{cs:List ae}{y:DataW H×List MemPlace}(h:hd enc aj w ai am held m 64 cs=D y):
  ∃t:aR,cs= [.int o t.1, .int o t.2.1, .int o t.2.2.1, .int o t.2.2.2.1, .int o t.2.2.2.2.1, .int o t.2.2.2.2.2]:=by
 obtain⟨V,n,_,_,aC,av,I⟩:=lm Tryz.underlying64 h;have aD:=aC.trans (show Tryz.prog.cellsOf 64=6 by kernel_rfl);obtain⟨a1,c1,c2,bV,bC,b8,rfl⟩:∃a b c d e f,cs= [a,b,c,d,e,f]:=by
  match cs,aD with
  | [a,b,c,d,e,f],_=>exact⟨a,b,c,d,e,f,rfl⟩
 have ap:Tryz.prog.cellsOf 3=1:=by kernel_rfl
 have h0:=I 0 _ rfl;have h1:=I 1 _ rfl;have ab:=I 2 _ rfl;have ag:=I 3 _ rfl;have az:=I 4 _ rfl;have ar:=I 5 _ rfl;simp only[lv,lu,ls] at h0 h1 ab ag az ar;rw[ap] at h0 h1 ab ag az ar;simp only[lr,lq,ly,kL] at h0 h1 ab ag az ar;have av:V.length=6:=by assumption
 obtain⟨a,rfl,_⟩:=hD (h0.trans (bb (by omega)));obtain⟨b,rfl,_⟩:=hD (h1.trans (bb (by omega)));obtain⟨c,rfl,_⟩:=hD (ab.trans (bb (by omega)));obtain⟨d,rfl,_⟩:=hD (ag.trans (bb (by omega)));obtain⟨e,rfl,_⟩:=hD (az.trans (bb (by omega)));obtain⟨f,rfl,_⟩:=hD (ar.trans (bb (by omega)));exact⟨(a,b,c,d,e,f),rfl⟩
theorem ov{T E:TypeId}{b:Nat}(bi:Tryz.prog.underlying T=D (.slice E))(N:Tryz.prog.bytesOf E=b){d:DataW H}{n:Nat}(R:(d= .nil/\n=0)∨∃K M,d= .slice K M/\K.length=n)(J:∀k ∈ d.weights aj T,k<=reachBytes):n*b<=140737488351232:=by
 rcases R with ⟨_,h⟩ | ⟨K,M,h,aH⟩
 ·subst h;omega
 have h1:=J ((K.length+M.length)*b) (by rw[h];simp[oB,bi,N]);simp only[reachBytes] at h1;rw[qt] at h1;rw[<-aH];omega
theorem wg{P:Program}{e:TypeId}:∀{l:List (DataW H)} {d:DataW H},d ∈ l->∀n ∈ d.weights P e,n ∈ DataW.weightsAll P e l
 | a::l,d,R,n,hn=>by
  simp only[DataW.weightsAll,List.mem_append];rcases List.mem_cons.1 R with rfl | R
  ·exact .inl hn
  ·exact .inr (wg R n hn)
def qC(w:ac)(b:aP×ae)(d:DataW H):Prop:=∃an ao,b.2= .slice an b.1.2.length ao/\Rd w 3 an b.1.2.length (bn b.1.2)/\b.1.2.length<=ao/\(an=F->ao=0)/\((bj b.1.1.1/\bj b.1.1.2.1/\bj b.1.1.2.2)/\∀t ∈ b.1.2,bj t.1/\bj t.2.1/\bj t.2.2)/\((∀k ∈ d.weights aj 56,k<=reachBytes)->b.1.2.length*24<=140737488351232)
def rP(b:aP×ae):List ae:= [.int o b.1.1.1, .int o b.1.1.2.1, .int o b.1.1.2.2,b.2]
theorem vr:∀(l:List (aP×ae)),fG (l.map (·.1)) (l.map (·.2))=l.flatMap rP
 | []=>rfl
 | a::l=>by
  rw[mx,<-vr l];rfl
theorem Bz{fuel:Nat}{cs:List ae}{x:DataW H×List MemPlace}(h:hd enc aj w ai am held fuel 54 cs=D x):
  ∃(A:Option cF) (n c:Nat) (l:List ah),cs= [.slice A n c]/\l.length=n/\Rd w 3 A n (bn l)/\(A=F->c=0)/\n<=c/\(∀t ∈ l,bj t.1/\bj t.2.1/\bj t.2.2)/\((x.1= .nil/\n=0)∨∃K M,x.1= .slice K M/\K.length=n):=by
 obtain⟨A,n,c,l,h1,ab,ag,az,ar,G⟩:=rG (k:=3) Tryz.underlying54 (by kernel_rfl) (by decide) (fun t:ah=> [.int o t.1, .int o t.2.1, .int o t.2.2]) (fun _=>rfl) (fun t _=>bj t.1/\bj t.2.1/\bj t.2.2) ((0,0,0):ah) (fun m cs y h=>by obtain⟨t,h1,ab⟩:=vS h;exact⟨t,h1,ab⟩) h;refine⟨A,n,c,l,h1,ab,ag,az,ar, ?_, ?_⟩
 ·intro t ht
  rcases G with ⟨_,G⟩ | ⟨K,M,_,_,G⟩
  ·have:l= []:=gm.1 (ab.trans G)
   subst this;simp at ht
  obtain⟨i,al⟩:=fz ht;obtain⟨d,_,af⟩:=G i t al;exact af
 rcases G with G | ⟨K,M,G,af,_⟩
 ·exact .inl G
 ·exact .inr ⟨K,M,G,af⟩
theorem CE{m:Nat}{cs:List ae}{y:DataW H×List MemPlace}(h:hd enc aj w ai am held m 56 cs=D y):∃b:aP×ae,cs=rP b/\qC w b y.1:=by
 obtain⟨V,n,_,aF,aC,av,I⟩:=lm Tryz.underlying56 h;have aD:=aC.trans (show Tryz.prog.cellsOf 56=4 by kernel_rfl);obtain⟨a1,c1,c2,bV,rfl⟩:∃a b c d,cs= [a,b,c,d]:=by
  match cs,aD with
  | [a,b,c,d],_=>exact⟨a,b,c,d,rfl⟩
 have aB:Tryz.prog.cellsOf 53=3:=by kernel_rfl
 have ap:Tryz.prog.cellsOf 54=1:=by kernel_rfl
 have h0:=I 0 _ rfl;have h1:=I 1 _ rfl;simp only[lv,lu,ls] at h0 h1;rw[aB] at h0;rw[ap] at h1;simp only[lr,lq,ly,kL] at h0 h1;have av:V.length=2:=by assumption
 obtain⟨aA,ax,rfl⟩:∃a b,V= [a,b]:=by
  match V,av with
  | [a,b],_=>exact⟨a,b,rfl⟩
 simp only[cU,cO] at h0 h1;obtain⟨t,ht,bH⟩:=vS h0;obtain⟨an,bQ,ao,l,hc,bs,aJ,aI,bq,al,R⟩:=Bz h1;simp only[oF,and_true] at ht hc;obtain⟨rfl,rfl,rfl⟩:=ht;subst hc;subst bs;refine⟨((t,l), .slice an l.length ao),rfl,an,ao,rfl,aJ,bq,aI,⟨bH,al⟩,fun J=> ?_⟩;have bK:y.1= .agg [aA.1,ax.1]:=by
  have:=congrArg Prod.fst aF;simpa using this
 rw[bK] at J;simp only[oB,Tryz.underlying56] at J;exact ov Tryz.underlying54 (show Tryz.prog.bytesOf 53=24 by kernel_rfl) R (fun k L=>J k (nE (j:=1) (t:=54) (d:=ax.1) rfl rfl k L))
theorem By{fuel:Nat}{cs:List ae}{x:DataW H×List MemPlace}(h:hd enc aj w ai am held fuel 27 cs=D x)(J:∀k ∈ x.1.weights aj 27,k<=reachBytes):
  ∃(A:Option cF) (n c:Nat) (sts:List aP),cs= [.slice A n c]/\en w A n sts/\(∀s ∈ sts,s.2.length*24<=140737488351232)/\n*48<=140737488351232:=by
 obtain⟨A,n,c,l,h1,ab,ag,az,ar,G⟩:=rG (k:=4) Tryz.underlying27 (by kernel_rfl) (by decide) rP (fun _=>rfl) (qC w) ((((0,0,0), []), .int o 0):aP×ae) (fun m cs y h=>CE h) h;have hn:n*48<=140737488351232:=ov Tryz.underlying27 (show Tryz.prog.bytesOf 56=48 by kernel_rfl) (by
  rcases G with G | ⟨K,M,G,af,_⟩
  ·exact .inl G
  ·exact .inr ⟨K,M,G,af⟩) J
 have key:∀(i:Nat) (b:aP×ae),l[i]? =D b->∃d:DataW H,qC w b d/\∀k ∈ d.weights aj 56,k<=reachBytes:=by
  intro i b N;rcases G with ⟨_,G⟩ | ⟨K,M,G,_,af⟩
  ·have:l= []:=gm.1 (ab.trans G)
   subst this;simp at N
  obtain⟨d,R,aE⟩:=af i b N;refine⟨d,aE,fun k L=>J k ?_⟩;rw[G];simp only[oB,Tryz.underlying27,List.mem_cons,List.mem_append];exact .inr (.inl (wg (List.mem_of_getElem? R) k L))
 have bk:∀s ∈ l.map (·.1),s.2.length*24<=140737488351232:=by
  intro s aw;obtain⟨b,N,rfl⟩:=List.mem_map.1 aw;obtain⟨i,al⟩:=fz N;obtain⟨d,⟨_,_,_,_,_,_,_,bL⟩,aU⟩:=key i b al;exact bL aU
 refine⟨A,n,c,l.map (·.1),h1,⟨by simp[ab],⟨l.map (·.2),by rw[vr];exact ag,fun i s aw=> ?_⟩,fun s aw=> ?_,by omega⟩,bk,hn⟩
 ·rw[jr,Option.map_eq_some_iff] at aw
  obtain⟨b,N,rfl⟩:=aw;obtain⟨d,⟨an,ao,aM,aN,aO,aS,_,aT⟩,aU⟩:=key i b N;refine⟨an,ao,by rw[jr,N,<-aM];rfl,aN,by have:=aT aU;omega,aO,aS⟩
 obtain⟨b,N,rfl⟩:=List.mem_map.1 aw;obtain⟨i,al⟩:=fz N;obtain⟨d,⟨_,_,_,_,_,_,af,_⟩,_⟩:=key i b al;exact af
theorem Bv{fuel:Nat}{cs:List ae}{x:DataW H×List MemPlace}(h:hd enc aj w ai am held fuel 26 cs=D x)(J:∀k ∈ x.1.weights aj 26,k<=reachBytes):
  ∃(A:Option cF) (n c:Nat) (l:List aR),cs= [.slice A n c]/\Rd w 6 A n (b5 l)/\(A=F->c=0)/\n*48<=140737488351232:=by
 obtain⟨A,n,c,l,h1,ab,ag,az,ar,G⟩:=rG (k:=6) Tryz.underlying26 (by kernel_rfl) (by decide) (fun t:aR=> [.int o t.1, .int o t.2.1, .int o t.2.2.1, .int o t.2.2.2.1, .int o t.2.2.2.2.1, .int o t.2.2.2.2.2]) (fun _=>rfl) (fun _ _=>True) zeroV (fun m cs y h=>by obtain⟨t,h1⟩:=Aw h;exact⟨t,h1,trivial⟩) h;refine⟨A,n,c,l,h1,ag,az,ov Tryz.underlying26 (show Tryz.prog.bytesOf 64=48 by kernel_rfl) ?_ J⟩;rcases G with G | ⟨K,M,G,af,_⟩
 ·exact .inl G
 ·exact .inr ⟨K,M,G,af⟩
theorem Bx{fuel:Nat}{a1 c1 c2 bV:ae}{x:DataW H×List MemPlace}(h:hd enc aj w ai am held fuel 25 [a1,c1,c2,bV]=D x)(J:∀k ∈ x.1.weights aj 25,k<=reachBytes):
  ∃(W H:Int) (Am Ac:Option cF) (nm cm nc cc:Nat) (mask:List Int) (cs:List bw),(a1= .int o W/\c1= .int o H/\c2= .slice Am nm cm/\bV= .slice Ac nc cc)/\Rd w 1 Am nm (bF mask)/\Rd w 5 Ac nc (cr cs)/\(Am=F->cm=0)/\(Ac=F->cc=0)/\nm*8<=140737488351232/\nc*40<=140737488351232:=by
 obtain⟨V,n,_,aF,_,_,I⟩:=lm Tryz.underlying25 h;have ap:Tryz.prog.cellsOf 3=1:=by kernel_rfl
 have ak:Tryz.prog.cellsOf 22=1:=by kernel_rfl
 have aB:Tryz.prog.cellsOf 23=1:=by kernel_rfl
 have h0:=I 0 _ rfl;have h1:=I 1 _ rfl;have ab:=I 2 _ rfl;have ag:=I 3 _ rfl;simp only[lv,lu,ls] at h0 h1 ab ag;rw[ap] at h0 h1;rw[ak] at ab;rw[aB] at ag;simp only[lr,lq,ly,kL] at h0 h1 ab ag;have av:V.length=4:=by assumption
 obtain⟨aA,ax,aG,a5,rfl⟩:=Ak av;simp only[cU,cO] at h0 h1 ab ag;obtain⟨W,rfl,_⟩:=hD h0;obtain⟨aK,rfl,_⟩:=hD h1;obtain⟨Am,nm,cm,mask,aZ,bt,bu,bv⟩:=Bw ab;obtain⟨Ac,nc,cc,cs,aX,bl,bm,bo⟩:=Bu ag;simp only[oF,and_true] at aZ aX;subst aZ aX;have R:x.1= .agg [aA.1,ax.1,aG.1,a5.1]:=by
  have:=congrArg Prod.fst aF;simpa using this
 rw[R] at J;simp only[oB,Tryz.underlying25] at J;exact⟨W,aK,Am,Ac,nm,cm,nc,cc,mask,cs,⟨rfl,rfl,rfl,rfl⟩,bt,bl,bu,bm,ov Tryz.underlying22 (show Tryz.prog.bytesOf 3=8 by kernel_rfl) bv (fun k L=>J k (nE (j:=2) (t:=22) (d:=aG.1) rfl rfl k L)),ov Tryz.underlying23 (show Tryz.prog.bytesOf 129=40 by kernel_rfl) bo (fun k L=>J k (nE (j:=3) (t:=23) (d:=a5.1) rfl rfl k L))⟩
theorem open_state{r:Reach}{b0:Nat}{v:ae}{d:DataW H}{p:List MemPlace}(bI:Value.okWide aj w r b0 29 v)(h:DataW.Trod enc aj w ai am held 29 v d p)(aw:(d.weights aj 29).all (·<=reachBytes)=S):
  ∃(W H:Int) (Am Ac Ap As:Option cF) (nm cm nc cc np cp ns cS:Nat) (mask:List Int) (cs:List bw) (ms:List aR) (sts:List aP),v= .agg #[.int o W, .int o H, .slice Am nm cm, .slice Ac nc cc, .slice Ap np cp, .slice As ns cS]/\Rd w 1 Am nm (bF mask)/\Rd w 5 Ac nc (cr cs)/\Rd w 6 Ap np (b5 ms)/\en w As ns sts/\
   (Am=F->cm=0)/\(Ac=F->cc=0)/\(Ap=F->cp=0)/\nm*8<=140737488351232/\nc*40<=140737488351232/\np*48<=140737488351232/\(∀s ∈ sts,s.2.length*24<=140737488351232)/\ns*48<=140737488351232:=by
 obtain⟨cs,rfl,hsz⟩:=okWide_struct Tryz.underlying29 bI;have hsz2:=hsz.trans (show Tryz.prog.cellsOf 29=6 by kernel_rfl);obtain⟨a1,c1,c2,bV,bC,b8,rfl⟩:∃a b c d e f,cs=#[a,b,c,d,e,f]:=by
  obtain⟨l⟩:=cs
  match l,hsz2 with
  | [a,b,c,d,e,f],_=>exact⟨a,b,c,d,e,f,rfl⟩
 obtain⟨fuel,hf⟩:=h;obtain⟨V,n,_,aF,_,_,I⟩:=lm Tryz.underlying29 hf;have ap:Tryz.prog.cellsOf 25=4:=by kernel_rfl
 have ak:Tryz.prog.cellsOf 26=1:=by kernel_rfl
 have aB:Tryz.prog.cellsOf 27=1:=by kernel_rfl
 have h0:=I 0 _ rfl;have h1:=I 1 _ rfl;have ab:=I 2 _ rfl;simp only[lv,lu,ls] at h0 h1 ab;rw[ap] at h0;rw[ak] at h1;rw[aB] at ab;simp only[Value.cells,lr,lq,ly,kL] at h0 h1 ab;have av:V.length=3:=by assumption
 obtain⟨aA,ax,aG,rfl⟩:∃a b c,V= [a,b,c]:=by
  match V,av with
  | [a,b,c],_=>exact⟨a,b,c,rfl⟩
 simp only[cU,cO] at h0 h1 ab;have R:d= .agg [aA.1,ax.1,aG.1]:=by
  have:=congrArg Prod.fst aF;simpa using this
 have J:∀k ∈ d.weights aj 29,k<=reachBytes:=fun k L=>by simpa using List.all_eq_true.1 aw k L
 rw[R] at J;simp only[oB,Tryz.underlying29] at J;obtain⟨W,aK,Am,Ac,nm,cm,nc,cc,mask,a9,⟨rfl,rfl,rfl,rfl⟩,aM,aN,aO,aS,aT,bg⟩:=Bx h0 (fun k L=>J k (nE (j:=0) (t:=25) (d:=aA.1) rfl rfl k L));obtain⟨Ap,np,cp,ms,a0,bx,bz,bA⟩:=Bv h1 (fun k L=>J k (nE (j:=1) (t:=26) (d:=ax.1) rfl rfl k L));obtain⟨As,ns,cS,sts,a3,bB,bD,bE⟩:=By ab (fun k L=>J k (nE (j:=2) (t:=27) (d:=aG.1) rfl rfl k L));simp only[oF,and_true] at a0 a3;subst a0 a3;exact⟨W,aK,Am,Ac,Ap,As,nm,cm,nc,cc,np,cp,ns,cS,mask,a9,ms,sts,rfl,aM,aN,bx,bB,aO,aS,bz,aT,bg,bA,bD,bE⟩
end
end
section
open Go.Deep Go.Joins Go.ChangeShapes Go.WideShapes Go.ChangeAt Go.WideElems Go.RowKit
theorem yw:Tryz.prog.globalNamed "pleat/tile.steps" =D 0:=by kernel_rfl
def laid1:List (String×DataW Unit):= [("pleat/tile.steps",Rows.laid_pleat_tile_steps)]
theorem CV:(Tryz.prog.globals[0]?).map (·.type)=D 157:=by kernel_rfl
theorem door_met(os:Os)(args:Array ae):laidMetH aj laid1 ((World.doorLaid aj 400 os).forCall (fun _ _=>0) ⟨#[],args, []⟩).memory:=
 laidMetH_of_parts3 (fuel:=8) (laidMet_of_run' 8 (by kernel_rfl) (by kernel_rfl)) (by kernel_rfl) (by kernel_rfl)
theorem pI{W:ac}{m:Nat}{u v:ae}{s:DataW Unit×List MemPlace}{a b:Int}(h:hd (fun _=>()) aj W 0 (fun _=>S) Q m 40 [u,v]=D s)(k:DataW.agg [.lit (.int o a), .lit (.int o b)]=s.1):u= .int o a/\v= .int o b:=by
 obtain⟨al,am,n,K,_,h0,h1⟩:=trod_struct2 Tryz.underlying40 h;have bV:Tryz.prog.cellsOf 3=1:=by kernel_rfl
 subst K;simp only[DataW.agg.injEq,oF,and_true] at k;obtain⟨Z,c,rfl,_⟩:=sb Tryz.underlying3 h0;obtain⟨ab,ap,rfl,_⟩:=sb Tryz.underlying3 h1;simp[bV] at c ap k;exact⟨by rw[c,k.1],by rw[ap,k.2]⟩
theorem steps_of_laid{W:ac}(h:laidMetH aj laid1 W):Steps W:=by
 rw[MakeChecks.laidMetH_plain _ _ _ (by kernel_rfl)] at h;obtain⟨ps,⟨ag,ai,J,af,p0,q0,z,M,E,y,_,_⟩,_,_⟩:=h;obtain rfl:=cn (yw.symm.trans z);obtain rfl:=cn (CV.symm.trans M);obtain⟨N,ah,rfl,r,A,L,g⟩:=DataW.trod_array Tryz.underlying157 y;have hc:=World.var?_cell z E;have I:Tryz.prog.cellsOf 157=8:=by kernel_rfl
 have G:Tryz.prog.cellsOf 40=2:=by kernel_rfl
 have bV:Tryz.prog.cellsOf 3=1:=by kernel_rfl
 rw[I] at A;rw[G] at g;have c:=g 0 (by decide);have ap:=g 1 (by decide);have ak:=g 2 (by decide);have i:=g 3 (by decide);clear g y E;obtain⟨l⟩:=J
 match l,A,N,L,r,c,ap,ak,i,hc with
 | [u0,u1,u2,u3,u4,u5,u6,u7],_, [X0,X1,X2,X3],_,r,c,ap,ak,i,hc=>
  simp at c ap ak i;simp[Rows.laid_pleat_tile_steps] at r;obtain⟨⟨P,R,T,V⟩,_⟩:=r;obtain⟨rfl,rfl⟩:=pI c P;obtain⟨rfl,rfl⟩:=pI ap R;obtain⟨rfl,rfl⟩:=pI ak T;obtain⟨rfl,rfl⟩:=pI i V;exact⟨hc 0,hc 1,hc 2,hc 3,hc 4,hc 5,hc 6,hc 7⟩
end
end Go.Proofs.YteaeipgfjmnecaaGreatDoor

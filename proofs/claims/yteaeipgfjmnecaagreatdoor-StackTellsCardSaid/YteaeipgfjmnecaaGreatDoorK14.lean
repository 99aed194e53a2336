/- Lemmas; each says its own conditions. -/
import Derived.Test.YteaeipgfjmnecaaGreatDoorK12
open Bool renaming and_false->dJ,eq_iff_iff->e1,false->Q,false_and->dG,true->S
open Decidable renaming decide->au
open Go renaming Calls->bB,Value->ae,World->ac,heap_alloc_new->aQ,undef->U,wpOp_step->cB
open Go.Act renaming put->a6
open Go.IntKind renaming i64->o
open List renaming all_eq_true->dM,getElem?_eq_getElem->bb,getElem?_eq_some_iff->bM,idxOf_lt_length_of_mem->gK,mem_of_getElem?->cH,setIfInBounds_toArray->bd,set_cons_succ->ba,set_cons_zero->bc,take_append_drop->qr,take_of_length_le->hU
open Nat renaming le_trans->ec,sub_self->mz
open Go.Obj renaming cells->Y
open Option renaming none->F,some->D
open Go.Proofs.Tryz renaming prog->aj
open Go.Value renaming agg->aq,bool->aa,int->B,pointer->ad,slice->O
namespace Go.Proofs.YteaeipgfjmnecaaGreatDoor
set_option linter.unusedSimpArgs false
set_option linter.unusedVariables false
set_option maxHeartbeats 12800000
set_option maxRecDepth 100000
section
open Go.RowKit Go.Maps
theorem yy(aB:Bool)(W H:Nat)(Am Ac:Option Addr)(nm cm nc cc:Nat)(mask:List Int)(cs:List bw)(w:ac)(bt:eF w W H Am nm mask Ac nc cs):
  bB aj 112 #[g5 W H Am nm cm Ac nc cc, aa aB] w fun r Z=>∃(bl:List Nat) (d8:Nat),r= .returned (O (D ⟨d8,0,F⟩) (bG W mask).length (bG W mask).length)/\kc (bG W mask) (fr aB cs) bl/\Z.heap[d8]? =D (Y (di bl).toArray 3 (0,0))/\w.heap.size<=d8/\Below w.heap.size w Z:=by
 have cQ:∀t ∈ bG W mask,gw t:=fun t ht=>bt.r3 ht;have hnd:=nt bt.r4;have b3:=bt.r2;have bx:=aQ w (Y #[B o W, B o H, O Am nm cm, O Ac nc cc] 25);have bN:Below w.heap.size w (w.alloc (Y #[B o W, B o H, O Am nm cm, O Ac nc cc] 25)):=aV _ _;obtain⟨a0,ao,a2,bR⟩:=dm bx;have cZ:=lh W H Am Ac nm cm nc cc mask cs _ (bt.below bN);have du:=bt.below bN;have aI:w.heap.size < (w.alloc (Y #[B o W, B o H, O Am nm cm, O Ac nc cc] 25)).heap.size:=by simp
 obtain⟨L,hL⟩:=ai (bG W mask);rw[<-hL] at cZ cQ hnd b3 |-;obtain⟨c0,db,dW,ct⟩:=df cZ cQ hnd du;have ej:=ui L.length b3;clear cZ cQ hnd hL bt bx du;go_in
 go_wp2_with (go_at_call 28;refine c0.out.mono ?_;rintro r A ⟨v,rfl,cO,dy⟩;obtain⟨eq,T,I,_,_⟩:=dd cO;subst I;have aE:=R dy;have bi:=R cO;clear dy cO)
 generalize w.alloc (Y #[B o W, B o H, O Am nm cm, O Ac nc cc] 25)=av at a0 ao a2 bR bN aI aE bi ct;have dA:Below w.heap.size w A:=ax bN aE.out;have a0:=c9 a0 aE.out aI;have ao:=c9 ao aE.out aI;have a2:=c9 a2 aE.out aI;have bR:=c9 bR aE.out aI;have b5:w.heap.size < A.heap.size:=Nat.lt_of_lt_of_le aI aE.out.size;have dv:=ct.out.below aE.out;obtain⟨dY,ch⟩:=aY dv dA;have dC:gr A A.heap.size (iL L.length 0) (A.alloc (Y (Array.replicate L.length (B o 0)) 3)):=⟨aV _ _,by rw[<-Dw,wb];exact aQ _ _,ce⟩;have cl:=R dC;clear dv dA dC ct c0 ej aI bN aE;generalize A.alloc (Y (Array.replicate L.length (B o 0)) 3)=wm at cl |-;go_loopw [7] (fun i wr=>∃j:Nat,j<=L.length/\i= B o j/\Hid (gr A A.heap.size (iL L.length j) wr)) (fun i _=>L.length-(intOf i).toNat)
 case atStart=>exact⟨0,by omega,rfl,cl⟩
 obtain⟨j,ed,rfl,J⟩:=hrel;by_cases cL:j < L.length
 ·have ef:(j:Int) < (L.length:Int):=by omega
  have ew:=J.out.at_ (i:=j) (by rw[yp];exact cL);have cV:=J.out.eu j;have aD:=J.out.set j j;rw[yq] at aD;have bP:=R aD;clear aD;go_wp2;go_roundw
  case rel=>exact⟨j+1,by omega,by go_num,bP⟩
  case measure=>simp[intOf];omega
 obtain rfl:j=L.length:=by omega
 have aD:=J.out;rw[yo] at aD;have c3:=R aD;clear aD J cl
 go_wp2_with fail
 go_loopw [8] (fun aR wr=>∃(b:Bool) (bl:List Nat),aR= aa b/\Hid (gr A A.heap.size bl wr)/\Hid (jw L (fr aB cs) bl)/\Hid (b=Q->kc L (fr aB cs) bl)) (fun aR wr=>rW wr A.heap.size+(match aR with | aa S=>1 | _=>0))
 case atStart=>exact⟨S,List.range L.length,rfl,c3,R (jw.start _ _),R (fun h=>by cases h)⟩
 clear c3;obtain⟨b,cd,rfl,J,bs,dq⟩:=hrel
 cases b with
 | false=>
  go_wp2;go_ret;exact⟨cd,A.heap.size,rfl,dq.out (by first | rfl | trivial),J.out.row,ch.out.size,ch.out.trans (J.out.bel.mono ch.out.size)⟩
 | true=>
  have dL:=vI J.out;have c7:=R dL;have hst:=f5.start bs.out;have dc:=R hst;clear dL hst dq
  go_wp2_with fail
  go_loopw [8,9] (fun aR i wr=>∃(N:Bool) (j:Nat) (bl:List Nat),j<=L.length/\aR= aa N/\i= B o j/\Hid (gr A A.heap.size bl wr)/\Hid (f5 L (fr aB cs) cd bl N j 0)) (fun _ i _=>L.length-(intOf i).toNat)
  case atStart=>exact⟨Q,0,cd,by omega,rfl,rfl,J,dc⟩
  clear J bs dc;obtain⟨N,j,bl,ed,rfl,rfl,J,ay⟩:=hrel;by_cases cL:j < L.length
  ·have ef:(j:Int) < (L.length:Int):=by omega
   obtain⟨t,ht⟩:∃t,L[j]? =D t:=⟨_,bb cL⟩;obtain⟨M,es,er,el,_,_,_,_⟩:=dF bi.out (by omega);cases el
   have hts:=db.out t (cH ht);obtain⟨b8,b9,ca⟩:=ey (bo bi.out J.out.bel) ht;have eW:=mP t.1 t.2.1 t.2.2 wr (by have:=hts.1;omega) (by have:=hts.1;omega) (by have:=hts.2.1;omega) (by have:=hts.2.1;omega) hts.2.2.1 hts.2.2.2;obtain⟨cX,bQ,bj⟩:=cq eW ht hts;clear eW ht hts
   go_wp2_with (go_at_call 71;refine cX.out.mono ?_;rintro r em ⟨⟨ge,rfl,dE⟩,dz⟩)
   have bq:hk em ge t:=dE;have aD:=J.out.below dz;obtain⟨bP,c2⟩:=aY aD bq;clear aD bq dE dz J b8 b9 ca cX;go_loopw [8,11] (fun aR k wr=>∃(N:Bool) (q:Nat) (bl:List Nat),q<=3/\aR= aa N/\k= B o q/\Hid (gr A A.heap.size bl wr)/\Hid (hk wr ge t)/\Hid (f5 L (fr aB cs) cd bl N j q)) (fun _ k _=>3-(intOf k).toNat)
   case atStart=>exact⟨N,0,bl,by omega,rfl,rfl,bP,c2,ay⟩
   clear bP c2 ay;obtain⟨N,k,bl,dD,rfl,rfl,J,bq,ay⟩:=hrel;by_cases cM:k < 3
   ·have et:(k:Int) < 3:=by omega
    have dH:=J.out.bel;obtain⟨b8,b9,ca⟩:=ey (bo bi.out dH) bQ.out;obtain⟨be,bf,bg,bh⟩:=bq.out.at_ cM;have cC:=fun(cb:ac)=>qE t.1 t.2.1 t.2.2 k cb cM (by have:=bj.out.1;omega) (by have:=bj.out.1;omega) (by have:=bj.out.2.1;omega) (by have:=bj.out.2.1;omega) bj.out.2.2.1 bj.out.2.2.2;have b4:=fun(h:fr aB cs (bk t k)=Q∨bE t k ∉ L)=>ay.out.skip (xh bQ.out h);have cP:=fun(m:Nat) (ar:L[m]? =D (bE t k)) (h:¬bl.getD m 0 < bl.getD j 0)=>ay.out.skip (xg dW.out bQ.out ar h);have bv:=fun(m:Nat) (hc:fr aB cs (bk t k)=S) (ar:L[m]? =D (bE t k)) (h:bl.getD m 0 < bl.getD j 0)=>ay.out.set bQ.out cM hc ar h (k+1);obtain⟨E,cF⟩:=ai (bk t k);obtain⟨a,cK⟩:=ai (bE t k);rw[show dI t.1 t.2.1 t.2.2 k=a from cK.symm,show ci t.1 t.2.1 t.2.2 k=E from cF.symm] at cC
    rw[<-cK] at b4 cP bv;rw[<-cF] at b4 bv be bf bg bh;obtain⟨cW,cv,da,c8⟩:=df cC b4 cP bv;clear cC b4 cP bv cF cK dH
    go_wp2_with fail
    refine mo (fun cy cz av=>∃(s:Nat->ae) (b:Nat->Nat),cz={tmps:=#[g5 W H Am nm cm Ac nc cc, aa aB, ad (D ⟨w.heap.size,0,F⟩),U, O F 0 0, O (D ⟨M,0,F⟩) L.length T, O (D ⟨A.heap.size,0,F⟩) L.length L.length, B o (L.length:Int), aa N, B o (j:Int), O (D ⟨ge,0,F⟩) 3 3, B o (k:Int),(s 12),(s 14),u14, aq #[B o W, B o H, O Am nm cm, O Ac nc cc], O (D ⟨M,0,F⟩) L.length T, O (D ⟨M,0,F⟩) L.length T, B o (L.length:Int), O (D ⟨A.heap.size,0,F⟩) L.length L.length, B o (L.length:Int), O (D ⟨M,0,F⟩) L.length T, B o (L.length:Int), aa Q,u24,u25,u26,u27,u28,u29, aa S, B o (j:Int), O (D ⟨M,0,F⟩) L.length T, B o (L.length:Int), aa S,u35,u36, O (D ⟨M,0,F⟩) L.length T, B o (j:Int), ad (D ⟨M,j*3,F⟩), aq #[B o t.1, B o t.2.1, B o t.2.2], O (D ⟨ge,0,F⟩) 3 3, B o (k:Int), aa S,u44,u45,(s 9),(s 0),(s 1),(s 2),(s 3),(s 4),(s 5),(s 6),(s 7),(s 8),(s 10),(s 11),u58,u59,u60,u61,u62,u63,u64,u65,u66,u67,u68,u69,u70,u71,u72,u73,u74,u75,u76,u77,u78,u79,u80,u81,u82,u83,u84,u85,u86,u87,u88,u89,u90,u91,U],defers:= []}/\cI 15 wr.heap.size wr [D (O (D ⟨M,0,F⟩) L.length T),D (B o (j:Int)),D (ad (D ⟨M,j*3,F⟩)),D (aq #[B o t.1, B o t.2.1, B o t.2.2]),D (O (D ⟨ge,0,F⟩) 3 3),D (B o (k:Int)),D (ad (D ⟨ge,k*4,F⟩)),D (aq #[B o E.1, B o E.2.1, B o E.2.2.1, B o E.2.2.2]),D (.tuple #[aq #[B o a.1, B o a.2.1, B o a.2.2], aa S]),D (.tuple #[aq #[B o a.1, B o a.2.1, B o a.2.2], aa S]),D (aq #[B o a.1, B o a.2.1, B o a.2.2]),D (aa S),F,F,D (aa S)] [F,F,F,F,F,F,F,F,F,F,F,F,F,F,F] [{c6:=12,b6:=13,d:=10,z:=(Y #[B o 0, B o 0, B o 0] 53 (0,0)),f:=fun _=>(Y #[B o (a.1), B o (a.2.1), B o (a.2.2)] 53 (0,0))}] cy s b av) (by kernel_rfl) ?_ ?_ ?_
    ·exact⟨pk [u47,u48,u49,u50,u51,u52,u53,u54,u55,u46,u56,u57,u12,U,u13],An [],rfl,B6 ce (Nat.le_refl 15) (Nat.le_refl 15) rfl⟩
    ·intro cy cz av i bs l
     obtain⟨s,b,rfl,I⟩:=bs;have al:i < 15:=jU l;have y:=R I;clear I;have hc:i=0∨i=1∨i=2∨i=3∨i=4∨i=5∨i=6∨i=7∨i=8∨i=9∨i=10∨i=11∨i=12∨i=13∨i=14:=by omega
     clear al;rcases hc with rfl | rfl | rfl | rfl | rfl | rfl | rfl | rfl | rfl | rfl | rfl | rfl | rfl | rfl | rfl
     ·have G:=hE (n:=15) (by decide) (mem_ready.1 l).1
      clear l;refine cB rfl (fun K g=> ?_);go_simp;refine g _ _ ?_;exact⟨bO s 0 (O (D ⟨M,0,F⟩) L.length T),b,rfl,cI.iq y.out G rfl rfl rfl⟩
     ·have G:=hE (n:=15) (by decide) (mem_ready.1 l).1
      clear l;refine cB rfl (fun K g=> ?_);go_simp;refine g _ _ ?_;exact⟨bO s 1 (B o (j:Int)),b,rfl,cI.iq y.out G rfl rfl rfl⟩
     ·have G:=hE (n:=15) (by decide) (mem_ready.1 l).1
      have d0:=cA l (k:=0) (by kernel_rfl);have d1:=cA l (k:=1) (by kernel_rfl);clear l;have bT:s 0=(O (D ⟨M,0,F⟩) L.length T):=y.out.v d0 rfl;have ap:s 1=(B o (j:Int)):=y.out.v d1 rfl;refine cB rfl (fun K g=> ?_);go_simp;refine g _ _ ?_;exact⟨bO (bO (bO s 0 (O (D ⟨M,0,F⟩) L.length T)) 1 (B o (j:Int))) 2 (ad (D ⟨M,j*3,F⟩)),b,rfl,cI.iq (cI.dt (j:=1) (v:=(B o (j:Int))) (cI.dt (j:=0) (v:=(O (D ⟨M,0,F⟩) L.length T)) y.out bT) ap) G rfl rfl rfl⟩
     ·have G:=hE (n:=15) (by decide) (mem_ready.1 l).1
      have d2:=cA l (k:=2) (by kernel_rfl);clear l;have ak:s 2=(ad (D ⟨M,j*3,F⟩)):=y.out.v d2 rfl;obtain⟨q0,aZ,bm⟩:=lc y.out.bel b8 b9 ca;refine cB rfl (fun K g=> ?_);go_simp;refine g _ _ ?_;exact⟨bO (bO s 2 (ad (D ⟨M,j*3,F⟩))) 3 (aq #[B o t.1, B o t.2.1, B o t.2.2]),b,rfl,cI.iq (cI.dt (j:=2) (v:=(ad (D ⟨M,j*3,F⟩))) y.out ak) G rfl rfl rfl⟩
     ·have G:=hE (n:=15) (by decide) (mem_ready.1 l).1
      clear l;refine cB rfl (fun K g=> ?_);go_simp;refine g _ _ ?_;exact⟨bO s 4 (O (D ⟨ge,0,F⟩) 3 3),b,rfl,cI.iq y.out G rfl rfl rfl⟩
     ·have G:=hE (n:=15) (by decide) (mem_ready.1 l).1
      clear l;refine cB rfl (fun K g=> ?_);go_simp;refine g _ _ ?_;exact⟨bO s 5 (B o (k:Int)),b,rfl,cI.iq y.out G rfl rfl rfl⟩
     ·have G:=hE (n:=15) (by decide) (mem_ready.1 l).1
      have d4:=cA l (k:=4) (by kernel_rfl);have d5:=cA l (k:=5) (by kernel_rfl);clear l;have bV:s 4=(O (D ⟨ge,0,F⟩) 3 3):=y.out.v d4 rfl;have bX:s 5=(B o (k:Int)):=y.out.v d5 rfl;refine cB rfl (fun K g=> ?_);go_simp;refine g _ _ ?_;exact⟨bO (bO (bO s 4 (O (D ⟨ge,0,F⟩) 3 3)) 5 (B o (k:Int))) 6 (ad (D ⟨ge,k*4,F⟩)),b,rfl,cI.iq (cI.dt (j:=5) (v:=(B o (k:Int))) (cI.dt (j:=4) (v:=(O (D ⟨ge,0,F⟩) 3 3)) y.out bV) bX) G rfl rfl rfl⟩
     ·have G:=hE (n:=15) (by decide) (mem_ready.1 l).1
      have d6:=cA l (k:=6) (by kernel_rfl);clear l;have bY:s 6=(ad (D ⟨ge,k*4,F⟩)):=y.out.v d6 rfl;obtain⟨q0,aZ,bm,cT⟩:=fQ y.out.bel be bf bg bh;refine cB rfl (fun K g=> ?_);go_simp;refine g _ _ ?_;exact⟨bO (bO s 6 (ad (D ⟨ge,k*4,F⟩))) 7 (aq #[B o E.1, B o E.2.1, B o E.2.2.1, B o E.2.2.2]),b,rfl,cI.iq (cI.dt (j:=6) (v:=(ad (D ⟨ge,k*4,F⟩))) y.out bY) G rfl rfl rfl⟩
     ·have G:=hE (n:=15) (by decide) (mem_ready.1 l).1
      have d3:=cA l (k:=3) (by kernel_rfl);have d7:=cA l (k:=7) (by kernel_rfl);clear l;have bU:s 3=(aq #[B o t.1, B o t.2.1, B o t.2.2]):=y.out.v d3 rfl;have bZ:s 7=(aq #[B o E.1, B o E.2.1, B o E.2.2.1, B o E.2.2.2]):=y.out.v d7 rfl;refine cB rfl (fun K g=> ?_)
      go_wp2_with fail
      refine aw (cW.out _) fun wc bL=> ?_;refine g _ _ ?_;exact⟨bO (bO (bO s 3 (aq #[B o t.1, B o t.2.1, B o t.2.2])) 7 (aq #[B o E.1, B o E.2.1, B o E.2.2.1, B o E.2.2.2])) 8 (.tuple #[aq #[B o a.1, B o a.2.1, B o a.2.2], aa S]),b,rfl,cI.w9 (cI.dt (j:=7) (v:=(aq #[B o E.1, B o E.2.1, B o E.2.2.1, B o E.2.2.2])) (cI.dt (j:=3) (v:=(aq #[B o t.1, B o t.2.1, B o t.2.2])) y.out bU) bZ) bL G rfl rfl rfl⟩
     ·have G:=hE (n:=15) (by decide) (mem_ready.1 l).1
      have d9:=cA l (k:=8) (by kernel_rfl);clear l;have b2:s 8=(.tuple #[aq #[B o a.1, B o a.2.1, B o a.2.2], aa S]):=y.out.v d9 rfl;refine cB rfl (fun K g=> ?_);go_simp;refine g _ _ ?_;exact⟨bO (bO s 8 (.tuple #[aq #[B o a.1, B o a.2.1, B o a.2.2], aa S])) 9 (.tuple #[aq #[B o a.1, B o a.2.1, B o a.2.2], aa S]),b,rfl,cI.iq (cI.dt (j:=8) (v:=(.tuple #[aq #[B o a.1, B o a.2.1, B o a.2.2], aa S])) y.out b2) G rfl rfl rfl⟩
     ·have G:=hE (n:=15) (by decide) (mem_ready.1 l).1
      have cE:=cA l (k:=9) (by kernel_rfl);clear l;have bn:s 9=(.tuple #[aq #[B o a.1, B o a.2.1, B o a.2.2], aa S]):=y.out.v cE rfl;refine cB rfl (fun K g=> ?_);go_simp;refine g _ _ ?_;exact⟨bO (bO s 9 (.tuple #[aq #[B o a.1, B o a.2.1, B o a.2.2], aa S])) 10 (aq #[B o a.1, B o a.2.1, B o a.2.2]),b,rfl,cI.iq (cI.dt (j:=9) (v:=(.tuple #[aq #[B o a.1, B o a.2.1, B o a.2.2], aa S])) y.out bn) G rfl rfl rfl⟩
     ·have G:=hE (n:=15) (by decide) (mem_ready.1 l).1
      have cE:=cA l (k:=9) (by kernel_rfl);clear l;have bn:s 9=(.tuple #[aq #[B o a.1, B o a.2.1, B o a.2.2], aa S]):=y.out.v cE rfl;refine cB rfl (fun K g=> ?_);go_simp;refine g _ _ ?_;exact⟨bO (bO s 9 (.tuple #[aq #[B o a.1, B o a.2.1, B o a.2.2], aa S])) 11 (aa S),b,rfl,cI.iq (cI.dt (j:=9) (v:=(.tuple #[aq #[B o a.1, B o a.2.1, B o a.2.2], aa S])) y.out bn) G rfl rfl rfl⟩
     ·have G:=hE (n:=15) (by decide) (mem_ready.1 l).1
      clear l;refine cB rfl (fun K g=> ?_);go_simp;refine g _ _ ?_;exact⟨bO s 12 _,nz b 12 _,rfl,cI.new y.out G rfl (by simp only[List.mem_cons,List.not_mem_nil,or_false];rintro q rfl h <;> first | rfl | (simp at h)) rfl rfl⟩
     ·have G:=hE (n:=15) (by decide) (mem_ready.1 l).1
      have bS:=cA l (k:=12) (by kernel_rfl);have dg:=cA l (k:=10) (by kernel_rfl);clear l;have iH:s 12= ad (D ⟨b 12,0,F⟩):=(y.out.cg (.head _) (i7 bS)).1;have iF:s 10=(aq #[B o a.1, B o a.2.1, B o a.2.2]):=y.out.v dg rfl;have b7:av.heap[b 12]? =D (Y #[B o 0, B o 0, B o 0] 53 (0,0)):=y.out.fresh (.head _) (i7 bS) G;obtain⟨ev,en,eo⟩:=dl b7;have cV:=br b7;have ex:=am b7;have ep:=(y.out.cg (.head _) (i7 bS)).2;refine cB rfl (fun K g=> ?_);go_simp;refine g _ _ ?_;have bv:=cI.set (Z:=ld av (b 12) 0 [B o (a.1), B o (a.2.1), B o (a.2.2)]) (i:=13) (v:=U) (cI.dt (j:=10) (v:=(aq #[B o a.1, B o a.2.1, B o a.2.2])) (cI.dt (j:=12) (v:=(ad (D ⟨b 12,0,F⟩))) y.out iH) iF) (.head _) G rfl (i7 bS) (i7 dg) rfl (by simp only[List.mem_cons,List.not_mem_nil,or_false];rintro q rfl h <;> first | rfl | (simp at h)) rfl rfl (y.out.bel.trans (Ch ep _ _)) (Cl _ _ _ _) (fun k dD=>Cj dD _ _) (Ci b7 rfl)
      exact⟨_,b,rfl,bv⟩
     have G:=hE (n:=15) (by decide) (mem_ready.1 l).1;have dZ:=cA l (k:=11) (by kernel_rfl);clear l;have iG:s 11=(aa S):=y.out.v dZ rfl;refine cB rfl (fun K g=> ?_);go_simp;refine g _ _ ?_;exact⟨bO (bO s 11 (aa S)) 14 (aa S),b,rfl,cI.iq (cI.dt (j:=11) (v:=(aa S)) y.out iG) G rfl rfl rfl⟩
    intro cy cz av bs dO;obtain⟨s,b,dx,I⟩:=bs;have hall:=lE dO I.aL (by kernel_rfl);clear dO;have bT:s 0=(O (D ⟨M,0,F⟩) L.length T):=I.v (hall 0 (by decide)) rfl;have ap:s 1=(B o (j:Int)):=I.v (hall 1 (by decide)) rfl;have ak:s 2=(ad (D ⟨M,j*3,F⟩)):=I.v (hall 2 (by decide)) rfl;have bU:s 3=(aq #[B o t.1, B o t.2.1, B o t.2.2]):=I.v (hall 3 (by decide)) rfl;have bV:s 4=(O (D ⟨ge,0,F⟩) 3 3):=I.v (hall 4 (by decide)) rfl;have bX:s 5=(B o (k:Int)):=I.v (hall 5 (by decide)) rfl;have bY:s 6=(ad (D ⟨ge,k*4,F⟩)):=I.v (hall 6 (by decide)) rfl;have bZ:s 7=(aq #[B o E.1, B o E.2.1, B o E.2.2.1, B o E.2.2.2]):=I.v (hall 7 (by decide)) rfl;have b2:s 8=(.tuple #[aq #[B o a.1, B o a.2.1, B o a.2.2], aa S]):=I.v (hall 8 (by decide)) rfl
    have bn:s 9=(.tuple #[aq #[B o a.1, B o a.2.1, B o a.2.2], aa S]):=I.v (hall 9 (by decide)) rfl;have iF:s 10=(aq #[B o a.1, B o a.2.1, B o a.2.2]):=I.v (hall 10 (by decide)) rfl;have iG:s 11=(aa S):=I.v (hall 11 (by decide)) rfl;have iH:s 12= ad (D ⟨b 12,0,F⟩):=(I.cg (.head _) (i7 (hall 12 (by decide)))).1;have dh:s 14=(aa S):=I.v (hall 14 (by decide)) rfl;simp only[bT,ap,ak,bU,bV,bX,bY,bZ,b2,bn,iF,iG,iH,dh] at dx;subst dx;have bx:av.heap[b 12]? =D (Y #[B o (a.1), B o (a.2.1), B o (a.2.2)] 53 (0,0)):=I.full (.head _) (i7 (hall 12 (by decide))) (i7 (hall 13 (by decide)));have c:=I.bel;have dT:wr.heap.size<=b 12:=(I.cg (.head _) (i7 (hall 12 (by decide)))).2;clear hall I bT ap ak bU bV bX bY bZ b2 bn iF iG iH dh
    generalize b 12=gU at bx dT  |-;have aX:=J.out.below c;have dr:=bq.out.below c;obtain⟨aG,aP⟩:=aY aX dr;have dw:=dY.out.below aX.bel;have b0:=c9 a0 aX.bel b5;have b1:=c9 ao aX.bel b5;have aC:=c9 a2 aX.bel b5;have aM:=c9 bR aX.bel b5;obtain⟨be,bf,bg,bh⟩:=fQ c be bf bg bh;obtain⟨dj,dk,dn⟩:=dl bx;have cD:=fun(cb:ac) (eb:Below av.heap.size av cb)=>rn W H Am Ac nm cm nc cc mask cs E cb (dw.below eb);obtain⟨KD,cJ⟩:=ai (ea cs E);rw[<-cJ] at cD;obtain⟨cY,c4⟩:=aY cD cJ;clear cD cJ dw aX dr J bq b8 b9 ca c bx dT cW
    cases aB with
    | true=>
     go_wp2_with fail
     refine bW (fin:= ?en) [aa S, aa Q, aa Q,U,U,U,U,U,U,U, aa Q] ?hf bp (by kernel_rfl) rfl fun aA hst=> ?_;case hf=>simp only[aT,a6,bd,ba,bc];exact rfl
     have cx:=R hst;have c:=hst;obtain⟨q0,aZ,bm,cT,dP,dQ,dR,dS⟩:=md c b0 b1 aC aM be bf bg bh;constructor
     ·iterate 11 refine⟨?_,fun K g=> ?_⟩
      ·trivial
      all_goals try (go_simp;exact g _ cx.out;done)
     have cj:Hid (fr S cs E=S):=R rfl;have bF:=aG.out.below c;have bI:=bo bi.out bF.bel;obtain⟨v0,v1,v2⟩:=lc c dj dk dn;have dp:=ot _ (D ⟨M,0,F⟩) T L a aA (bI) b3;obtain⟨bC,a1⟩:=ai (dU L a);rw[<-a1] at dp;obtain⟨cf,bA,bz⟩:=cq dp a1 c;clear dp a1 bI bF c
     go_wp2_with (go_at_call 30;refine aw cf.out fun cU bK=> ?_)
     have bJ:Below av.heap.size av cU:=ax bz.out bK;have ah:=R bJ;clear bJ bK bz v0 v1 v2;by_cases az:a ∈ L
     ·obtain⟨m,ar,a4⟩:∃m,L[m]? =D a/\bC=((m:Nat):Int):=⟨L.idxOf a,by rw[bb (gK az)];simp,by rw[bA.out];unfold dU;rw[if_pos az]⟩
      subst a4;have ek:m < L.length:=(bM.1 ar).1;have ei:(m:Int) < (L.length:Int):=by omega
      have eh:(0:Int)<=(m:Int):=by omega
      have ee:(0:Int)<=(j:Int):=by omega
      have aK:=aG.out.below ah.out;have cR:=ay.out.inv.len;have aW:=aK.at_ (i:=m) (by omega);have aU:=aK.at_ (i:=j) (by omega);have a5:=c8.out m;have a7:=da.out m ar;obtain⟨aS,a9⟩:=ai (bl.getD m 0);obtain⟨P,a8⟩:=ai (bl.getD j 0);rw[<-a9,<-a8] at a5 a7;rw[<-a9] at aW;rw[<-a8] at aU;obtain⟨cn,cu,cw⟩:=cq aK (fun h=>a5 cj.out ar h) a7;clear aK cR a5 a7 a9 a8 ar az;by_cases aO:aS < P
      ·have a3:au (aS < P)=S:=decide_eq_true aO
       have cN:au ((aS:Int) < (P:Int))=S:=by rw[<-a3];simp
       refine bW (fin:= ?eo) [B o (m:Int), aa S, aa S, O (D ⟨A.heap.size,0,F⟩) L.length L.length, B o (m:Int), ad (D ⟨A.heap.size,m,F⟩), B o (aS:Int), O (D ⟨A.heap.size,0,F⟩) L.length L.length, B o (j:Int), ad (D ⟨A.heap.size,j,F⟩), B o (P:Int), aa S, aa S] ?hf bp (by kernel_rfl) rfl fun aA c=> ?_;case hf=>simp only[aT,a6,bd,ba,bc];exact rfl
       have an:=R c;have q0:=V aW c;have aZ:=V aU c;constructor
       ·iterate 13 refine⟨?_,fun K g=> ?_⟩
        ·trivial
        all_goals try (go_simp;exact g _ an.out;done)
       have aN:=cn.out.below c;have cV:=aN.eu j;have bH:=aN.set j aS;have bD:=(aP.out.below (ax ah.out c)).set aN j (B o (aS:Int));obtain⟨co,ck⟩:=aY bH bD;clear aN bH bD;go_wp2;go_roundw
       case rel=>exact⟨S,k+1,bl.set j aS,by omega,rfl,by go_num,co,ck,R (cu.out aO)⟩
       case measure=>simp[intOf];omega
      have a3:au (aS < P)=Q:=decide_eq_false aO;have cN:au ((aS:Int) < (P:Int))=Q:=by rw[<-a3];simp
      refine bW (fin:= ?z3) [B o (m:Int), aa S, aa S, O (D ⟨A.heap.size,0,F⟩) L.length L.length, B o (m:Int), ad (D ⟨A.heap.size,m,F⟩), B o (aS:Int), O (D ⟨A.heap.size,0,F⟩) L.length L.length, B o (j:Int), ad (D ⟨A.heap.size,j,F⟩), B o (P:Int), aa Q, aa Q] ?hf bp (by kernel_rfl) rfl fun aA c=> ?_;case hf=>simp only[aT,a6,bd,ba,bc];exact rfl
      have an:=R c;have q0:=V aW c;have aZ:=V aU c;constructor
      ·iterate 13 refine⟨?_,fun K g=> ?_⟩
       ·trivial
       all_goals try (go_simp;exact g _ an.out;done)
      have af:=cw.out aO;obtain⟨aJ,aH,aF⟩:=cq af (aG.out.below (ax ah.out c)) (aP.out.below (ax ah.out c));clear af;go_wp2;go_roundw
      case rel=>exact⟨N,k+1,bl,by omega,rfl,by go_num,aH,aF,aJ⟩
      case measure=>simp[intOf];omega
     have a4:bC= -1:=by rw[bA.out];unfold dU;rw[if_neg az]
     subst a4;refine bW (fin:= ?z4) [B o (-1), aa Q, aa Q,U,U,U,U,U,U,U,U,U, aa Q] ?hf bp (by kernel_rfl) rfl fun aA c=> ?_;case hf=>simp only[aT,a6,bd,ba,bc];exact rfl
     have an:=R c;constructor
     ·iterate 13 refine⟨?_,fun K g=> ?_⟩
      ·trivial
      all_goals try (go_simp;exact g _ an.out;done)
     have af:=cv.out (.inr az);obtain⟨aJ,aH,aF⟩:=cq af (aG.out.below (ax ah.out c)) (aP.out.below (ax ah.out c));clear af;go_wp2;go_roundw
     case rel=>exact⟨N,k+1,bl,by omega,rfl,by go_num,aH,aF,aJ⟩
     case measure=>simp[intOf];omega
    | false=>
     go_wp2_with fail
     by_cases bu:KD=0
     ·have eg:(KD !=0)=Q:=by simpa using bu
      have cr:=R bu;clear bu;refine bW (fin:= ?z5) [aa Q, aa S, aa S, aq #[B o W, B o H, O Am nm cm, O Ac nc cc], O (D ⟨ge,0,F⟩) 3 3, B o (k:Int), ad (D ⟨ge,k*4,F⟩), aq #[B o E.1, B o E.2.1, B o E.2.2.1, B o E.2.2.2], B o KD, aa Q, aa Q] ?hf bp (by kernel_rfl) rfl fun aA hst=> ?_;case hf=>simp only[aT,a6,bd,ba,bc];exact rfl
      have cx:=R hst;have c:=hst;obtain⟨q0,aZ,bm,cT,dP,dQ,dR,dS⟩:=md c b0 b1 aC aM be bf bg bh;constructor
      ·iterate 11 refine⟨?_,fun K g=> ?_⟩
       ·trivial
       all_goals try (go_simp;exact g _ cx.out;done)
       go_simp;exact aw (cY.out _ c) fun wc bL=>g _ (ax c bL)
      have cj:Hid (fr Q cs E=S):=R (show(au (ea cs E=0))=S by rw[<-c4.out];exact decide_eq_true cr.out);have bF:=aG.out.below c;have bI:=bo bi.out bF.bel;obtain⟨v0,v1,v2⟩:=lc c dj dk dn;have dp:=ot _ (D ⟨M,0,F⟩) T L a aA (bI) b3;obtain⟨bC,a1⟩:=ai (dU L a);rw[<-a1] at dp;obtain⟨cf,bA,bz⟩:=cq dp a1 c;clear dp a1 bI bF c
      go_wp2_with (go_at_call 30;refine aw cf.out fun cU bK=> ?_)
      have bJ:Below av.heap.size av cU:=ax bz.out bK;have ah:=R bJ;clear bJ bK bz v0 v1 v2;by_cases az:a ∈ L
      ·obtain⟨m,ar,a4⟩:∃m,L[m]? =D a/\bC=((m:Nat):Int):=⟨L.idxOf a,by rw[bb (gK az)];simp,by rw[bA.out];unfold dU;rw[if_pos az]⟩
       subst a4;have ek:m < L.length:=(bM.1 ar).1;have ei:(m:Int) < (L.length:Int):=by omega
       have eh:(0:Int)<=(m:Int):=by omega
       have ee:(0:Int)<=(j:Int):=by omega
       have aK:=aG.out.below ah.out;have cR:=ay.out.inv.len;have aW:=aK.at_ (i:=m) (by omega);have aU:=aK.at_ (i:=j) (by omega);have a5:=c8.out m;have a7:=da.out m ar;obtain⟨aS,a9⟩:=ai (bl.getD m 0);obtain⟨P,a8⟩:=ai (bl.getD j 0);rw[<-a9,<-a8] at a5 a7;rw[<-a9] at aW;rw[<-a8] at aU;obtain⟨cn,cu,cw⟩:=cq aK (fun h=>a5 cj.out ar h) a7;clear aK cR a5 a7 a9 a8 ar az;by_cases aO:aS < P
       ·have a3:au (aS < P)=S:=decide_eq_true aO
        have cN:au ((aS:Int) < (P:Int))=S:=by rw[<-a3];simp
        refine bW (fin:= ?z6) [B o (m:Int), aa S, aa S, O (D ⟨A.heap.size,0,F⟩) L.length L.length, B o (m:Int), ad (D ⟨A.heap.size,m,F⟩), B o (aS:Int), O (D ⟨A.heap.size,0,F⟩) L.length L.length, B o (j:Int), ad (D ⟨A.heap.size,j,F⟩), B o (P:Int), aa S, aa S] ?hf bp (by kernel_rfl) rfl fun aA c=> ?_;case hf=>simp only[aT,a6,bd,ba,bc];exact rfl
        have an:=R c;have q0:=V aW c;have aZ:=V aU c;constructor
        ·iterate 13 refine⟨?_,fun K g=> ?_⟩
         ·trivial
         all_goals try (go_simp;exact g _ an.out;done)
        have aN:=cn.out.below c;have cV:=aN.eu j;have bH:=aN.set j aS;have bD:=(aP.out.below (ax ah.out c)).set aN j (B o (aS:Int));obtain⟨co,ck⟩:=aY bH bD;clear aN bH bD;go_wp2;go_roundw
        case rel=>exact⟨S,k+1,bl.set j aS,by omega,rfl,by go_num,co,ck,R (cu.out aO)⟩
        case measure=>simp[intOf];omega
       have a3:au (aS < P)=Q:=decide_eq_false aO;have cN:au ((aS:Int) < (P:Int))=Q:=by rw[<-a3];simp
       refine bW (fin:= ?z7) [B o (m:Int), aa S, aa S, O (D ⟨A.heap.size,0,F⟩) L.length L.length, B o (m:Int), ad (D ⟨A.heap.size,m,F⟩), B o (aS:Int), O (D ⟨A.heap.size,0,F⟩) L.length L.length, B o (j:Int), ad (D ⟨A.heap.size,j,F⟩), B o (P:Int), aa Q, aa Q] ?hf bp (by kernel_rfl) rfl fun aA c=> ?_;case hf=>simp only[aT,a6,bd,ba,bc];exact rfl
       have an:=R c;have q0:=V aW c;have aZ:=V aU c;constructor
       ·iterate 13 refine⟨?_,fun K g=> ?_⟩
        ·trivial
        all_goals try (go_simp;exact g _ an.out;done)
       have af:=cw.out aO;obtain⟨aJ,aH,aF⟩:=cq af (aG.out.below (ax ah.out c)) (aP.out.below (ax ah.out c));clear af;go_wp2;go_roundw
       case rel=>exact⟨N,k+1,bl,by omega,rfl,by go_num,aH,aF,aJ⟩
       case measure=>simp[intOf];omega
      have a4:bC= -1:=by rw[bA.out];unfold dU;rw[if_neg az]
      subst a4;refine bW (fin:= ?z8) [B o (-1), aa Q, aa Q,U,U,U,U,U,U,U,U,U, aa Q] ?hf bp (by kernel_rfl) rfl fun aA c=> ?_;case hf=>simp only[aT,a6,bd,ba,bc];exact rfl
      have an:=R c;constructor
      ·iterate 13 refine⟨?_,fun K g=> ?_⟩
       ·trivial
       all_goals try (go_simp;exact g _ an.out;done)
      have af:=cv.out (.inr az);obtain⟨aJ,aH,aF⟩:=cq af (aG.out.below (ax ah.out c)) (aP.out.below (ax ah.out c));clear af;go_wp2;go_roundw
      case rel=>exact⟨N,k+1,bl,by omega,rfl,by go_num,aH,aF,aJ⟩
      case measure=>simp[intOf];omega
     have eg:(KD !=0)=S:=by simpa using bu
     have cr:=R bu;clear bu;refine bW (fin:= ?z9) [aa Q, aa S, aa S, aq #[B o W, B o H, O Am nm cm, O Ac nc cc], O (D ⟨ge,0,F⟩) 3 3, B o (k:Int), ad (D ⟨ge,k*4,F⟩), aq #[B o E.1, B o E.2.1, B o E.2.2.1, B o E.2.2.2], B o KD, aa S, aa S] ?hf bp (by kernel_rfl) rfl fun aA c=> ?_;case hf=>simp only[aT,a6,bd,ba,bc];exact rfl
     have an:=R c;obtain⟨q0,aZ,bm,cT,dP,dQ,dR,dS⟩:=md c b0 b1 aC aM be bf bg bh;constructor
     ·iterate 11 refine⟨?_,fun K g=> ?_⟩
      ·trivial
      all_goals try (go_simp;exact g _ an.out;done)
      go_simp;exact aw (cY.out _ c) fun wc bL=>g _ (ax c bL)
     have af:=cv.out (.inl (show(au (ea cs E=0))=Q by rw[<-c4.out];exact decide_eq_false cr.out));obtain⟨aJ,aH,aF⟩:=cq af (aG.out.below c) (aP.out.below c);clear af;go_wp2;go_roundw
     case rel=>exact⟨N,k+1,bl,by omega,rfl,by go_num,aH,aF,aJ⟩
     case measure=>simp[intOf];omega
   obtain rfl:k=3:=by omega
   have dX:=R ay.out.row;go_wp2;go_roundw
   case rel=>exact⟨N,j+1,bl,by omega,rfl,by go_num,J,dX⟩
   case measure=>simp[intOf];omega
  obtain rfl:j=L.length:=by omega
  have cG:∀t ∈ L,dN t:=fun t ht=>(db.out t ht).2.2;have de:=R (vI J.out)
  cases N with
  | true=>
   have dK:=ay.out.more;have c5:=R dK;clear dK cG;go_wp2;go_roundw
   case rel=>exact⟨S,bl,rfl,J,R c5.out.1,R (fun h=>by cases h)⟩
   case measure=>have h1:=c5.out.2;have ab:=de.out;have ag:=c7.out;simp only[ab,ag];omega
  | false=>
   have dB:=ay.out.done ce cG;obtain⟨c1,dV⟩:=aY dB ay.out.inv;clear dB cG;go_wp2;go_roundw
   case rel=>exact⟨Q,bl,rfl,J,dV,R (fun _=>c1.out.2)⟩
   case measure=>have h1:=c1.out.1;have ab:=de.out;have ag:=c7.out;simp only[ab,ag,h1];omega
end
section
open Go.RowKit Go.Maps
variable {l:List ah}
theorem xN{c:aO->Bool}{a:ah}(hnd:l.Nodup)(aG:a ∈ l):kM l c a (jD l c a) where
 eR:=by unfold jD;exact hnd.filter _
 fst:=(mM aG).2 .refl
 jT t ht:=(mM aG).1 ht
 cl t ht i al hc aA:=(mM aG).2 (.step ((mM aG).1 ht) al hc aA)
theorem zl{bl:List Nat}(hnd:l.Nodup)(av:∀t ∈ l,dN t)(aP:kc l (fun _=>S) bl):gc l=((bl.all fun z=>z==0) && au (0 < l.length)):=by
 cases l with
 | nil=>simp[gc]
 | cons a bC=>
  rw[zr hnd av (a:=a) rfl aP (xN hnd (List.mem_cons_self))];simp[gc]
theorem zo(W H:Nat)(Am Ac:Option Addr)(nm cm nc cc:Nat)(mask:List Int)(cs:List bw)(w:ac)(ay:eF w W H Am nm mask Ac nc cs):
  bB aj 70 #[g5 W H Am nm cm Ac nc cc] w fun r Z=>r= .returned (aa (gc (bG W mask)))/\Below w.heap.size w Z:=by
 have aH:=fun bl aP=>zl (l:=bG W mask) (bl:=bl) (nt ay.r4) (fun t ht=>(ay.r3 ht).2.2) aP;have K:=aQ w (Y #[B o W, B o H, O Am nm cm, O Ac nc cc] 25);have A:=aV w (Y #[B o W, B o H, O Am nm cm, O Ac nc cc] 25);have bu:=ay.r2;have aM:=yy S W H Am Ac nm cm nc cc mask cs _ (ay.below A);obtain⟨a0,ao,a2,aw⟩:=dm K;obtain⟨L,hL⟩:=ai (bG W mask);rw[<-hL] at aM aH bu |-;obtain⟨I,am⟩:=ai (gc L);rw[<-am] at aH |-;obtain⟨bn,bo⟩:=aY aM aH;clear aM hL ay K aH am;go_in
 go_wp2_with (go_at_call 112;refine bn.out.mono ?_;rintro r G ⟨bl,d8,rfl,aR,bj,bq,a8⟩)
 have a9:=ax A a8;have bz:=aR.len;have bf:=bo.out bl aR;obtain⟨a3,bp⟩:=aY bf bj;clear aR bj bq A a8 bf;go_loopw [4] (fun i wr=>∃j:Nat,j<=L.length/\i= B o j/\wr=G/\Hid (∀z ∈ bl.take j,z=0)) (fun i _=>L.length-(intOf i).toNat)
 case atStart=>exact⟨0,by omega,rfl,rfl,R (by simp)⟩
 obtain⟨j,br,rfl,rfl,hall⟩:=hrel;by_cases be:j < L.length
 ·have bt:(j:Int) < (L.length:Int):=by omega
  have bs:(0:Int)<=(j:Int):=by omega
  obtain⟨z,aI⟩:∃z,bl[j]? =D z:=⟨_,bb (by omega)⟩;have hc:wr.cell? ⟨d8,j,F⟩=D (B o (z:Int)):=by
   rw[aB bp.out j,List.getElem?_toArray,di,List.getElem?_map,aI];rfl
  have ar:=R aI;clear aI
  cases z with
  | zero=>
   have aC:=oz (P:=fun d:Nat=>d=0) ar.out hall.out rfl;have aL:=R aC;clear aC;go_wp2;go_roundw
   case rel=>exact⟨j+1,by omega,by go_num,trivial,aL⟩
   case measure=>simp[intOf];omega
  | succ z=>
   have bh:((((z+1:Nat):Int)) !=0)=S:=by simp;omega
   have g:I=Q:=by
    rw[a3.out,Bool.and_eq_false_iff];left
    rw[Bool.eq_false_iff];intro h;have:=dM.1 h _ (cH ar.out);simp at this
   have E:=R g;clear g;go_wp2;go_ret;exact⟨cW E.out.symm,a9⟩
 obtain rfl:j=L.length:=by omega
 have g:au (0 < L.length)=I:=by
  rw[a3.out];have:(bl.all fun z=>z==0)=S:=by
   rw[dM];intro z aI;have:=hall.out z (by rw[hU (by omega)];exact aI);simp[this]
  rw[this,Bool.true_and]
 have E:=R g;clear g;go_wp2;go_ret;refine⟨cW (Eq.trans ?_ E.out),a9⟩;simp
theorem xe(W H:Int)(Am Ac:Option Addr)(nm cm nc cc:Nat)(mask:List Int)(w:ac)(aA:Rd w 1 Am nm (bF mask))(hn:nm<=140737488351232):
  bB aj 67 #[aq #[B o W, B o H, O Am nm cm, O Ac nc cc]] w fun r Z=>r= .returned (aa (iB W H mask))/\Below w.heap.size w Z:=by
 have av:=aA.k5;have K:=aQ w (Y #[B o W, B o H, O Am nm cm, O Ac nc cc] 25);have A:=aV w (Y #[B o W, B o H, O Am nm cm, O Ac nc cc] 25);have bg:=aA.below A;obtain⟨a0,ao,a2,aw⟩:=dm K;have c1:=fun(G:ac)=>b3 W 1 8 G;have c2:=fun(G:ac)=>b3 H 1 8 G;obtain⟨aJ,M⟩:=ai ((au (1<=W) && au (W<=8)));obtain⟨aT,N⟩:=ai ((au (1<=H) && au (H<=8)));rw[<-M] at c1;rw[<-N] at c2;obtain⟨I,am⟩:=ai (iB W H mask);rw[<-am];obtain⟨J,af,aE,aX,aD,a4⟩:=ft c1 c2 am M N bg;clear c1 c2 am M N aA bg K
 cases aJ with
 | false=>
  have g:I=Q:=by
   rw[aE.out];refine lG ?_;have:=aX.out.symm;simp at this;omega
  have E:=R g;clear g;go_in
  go_wp2_with (first
   | ((with_reducible refine(J.out _).mono ?_);rintro e wc ⟨s,y⟩;subst s;subst y)
   | ((with_reducible refine(af.out _).mono ?_);rintro e wc ⟨s,y⟩;subst s;subst y))
  go_ret;exact⟨cW E.out.symm,A⟩
 | true=>
  cases aT with
  | false=>
   have g:I=Q:=by
    rw[aE.out];refine lG ?_;have:=aD.out.symm;simp at this;omega
   have E:=R g;clear g;go_in
   go_wp2_with (first
    | ((with_reducible refine(J.out _).mono ?_);rintro e wc ⟨s,y⟩;subst s;subst y)
    | ((with_reducible refine(af.out _).mono ?_);rintro e wc ⟨s,y⟩;subst s;subst y))
   go_ret;exact⟨cW E.out.symm,A⟩
  | true=>
   have h1:1<=W/\W<=8:=by have:=aX.out.symm;simp at this;omega
   have ab:1<=H/\H<=8:=by have:=aD.out.symm;simp at this;omega
   have bA:IntKind.i64.wrap (W*H)=W*H:=by
    have aZ:0<=W*H:=Int.mul_nonneg (by omega) (by omega);have bm:W*H<=8*8:=Int.mul_le_mul (by omega) (by omega) (by omega) (by omega);exact IntWalk.i64_in _ (by omega)
   by_cases ag:(nm:Int)=W*H
   ·have bh:((nm:Int) !=W*H)=Q:=by simpa using ag
    have bi:I=mask.all fun m=>au (0<=m/\m<=15):=by rw[aE.out,qK h1 ab (by omega)]
    have a5:=R bi;clear bi ag;go_in
    go_wp2_with (first
     | ((with_reducible refine(J.out _).mono ?_);rintro e wc ⟨s,y⟩;subst s;subst y)
     | ((with_reducible refine(af.out _).mono ?_);rintro e wc ⟨s,y⟩;subst s;subst y))
    generalize (w.alloc (Y #[B o W, B o H, O Am nm cm, O Ac nc cc] 25))=w0 at a0 ao a2 aw A a4 |-;go_loopw [3] (fun i wr=>∃j:Nat,j<=nm/\i= B o j/\wr=w0/\Hid (∀z ∈ mask.take j,0<=z/\z<=15)) (fun i _=>nm-(intOf i).toNat)
    case atStart=>exact⟨0,by omega,rfl,rfl,R (by simp)⟩
    obtain⟨j,br,rfl,rfl,hall⟩:=hrel;by_cases be:j < nm
    ·have bt:(j:Int) < (nm:Int):=by omega
     have bs:(0:Int)<=(j:Int):=by omega
     obtain⟨b,bD,z,hA,_,aI,bx⟩:=a4.out.int be;subst hA;have bV:=fun(G:ac)=>b3 z 0 15 G;obtain⟨aK,T⟩:=ai ((au (0<=z) && au (z<=15)));rw[<-T] at bV;obtain⟨aU,a1,ar⟩:=cq bV T aI;clear bV T aI
     cases aK with
     | false=>
      have g:I=Q:=by
       rw[a5.out,Bool.eq_false_iff];intro h;have az:=dM.1 h _ (cH ar.out);have:=a1.out.symm;simp at this az;omega
      have E:=R g;clear g
      go_wp2_with ((with_reducible refine(aU.out _).mono ?_);rintro e wc ⟨s,y⟩;subst s;subst y)
      go_ret;exact⟨cW E.out.symm,A⟩
     | true=>
      have aC:=oz (P:=fun d:Int=>0<=d/\d<=15) ar.out hall.out (by have:=a1.out.symm;simp at this;exact this);have aL:=R aC;clear aC
      go_wp2_with ((with_reducible refine(aU.out _).mono ?_);rintro e wc ⟨s,y⟩;subst s;subst y)
      go_roundw
      case rel=>exact⟨j+1,by omega,by go_num,trivial,aL⟩
      case measure=>simp[intOf];omega
    obtain rfl:j=nm:=by omega
    have g:I=S:=by
     rw[a5.out,dM];intro z aI;have:=hall.out z (by rw[hU (by omega)];exact aI);simp[this]
    have E:=R g;clear g;go_wp2;go_ret;exact⟨cW E.out.symm,A⟩
   have bh:((nm:Int) !=W*H)=S:=by simpa using ag
   have g:I=Q:=by
    rw[aE.out];exact lG (.inr (.inr (.inr (.inr (by omega)))))
   have E:=R g;clear g ag;go_in
   go_wp2_with (first
    | ((with_reducible refine(J.out _).mono ?_);rintro e wc ⟨s,y⟩;subst s;subst y)
    | ((with_reducible refine(af.out _).mono ?_);rintro e wc ⟨s,y⟩;subst s;subst y))
   go_ret;exact⟨cW E.out.symm,A⟩
theorem zY(a b:aO):fD a b=(fh a.1 a.2.1 b.1 b.2.1 || (db [(a.1,b.1),(a.2.1,b.2.1)] && fh a.2.2.1 a.2.2.2 b.2.2.1 b.2.2.2)):=by
 have:db [(a.1,b.1),(a.2.1,b.2.1)]=au (a.1=b.1/\a.2.1=b.2.1):=by
  rw[e1];simp[db]
 rw[this];rfl
theorem t2(a b:aO)(w:ac):bB aj 68 #[bS a,bS b] w fun r Z=>r= .returned (aa (fD a b))/\Below w.heap.size w Z:=by
 rw[zY];have K:=aQ w (Y #[B o a.1, B o a.2.1, B o a.2.2.1, B o a.2.2.2] 42);have bk:=aW K (Y #[B o b.1, B o b.2.1, B o b.2.2.1, B o b.2.2.2] 42);have aS:=aQ (w.alloc (Y #[B o a.1, B o a.2.1, B o a.2.2.1, B o a.2.2.2] 42)) (Y #[B o b.1, B o b.2.1, B o b.2.2.1, B o b.2.2.2] 42);rw[World.size_alloc] at aS;have A:Below w.heap.size w ((w.alloc (Y #[B o a.1, B o a.2.1, B o a.2.2.1, B o a.2.2.2] 42)).alloc (Y #[B o b.1, B o b.2.1, B o b.2.2.1, B o b.2.2.2] 42)):=aN (aV _ _) _;obtain⟨a0,ao,a2,aw⟩:=dm bk;obtain⟨aF,ap,ak,a7⟩:=dm aS;have c1:=fun(G:ac)=>pj a.1 a.2.1 b.1 b.2.1 G;have c2:=fun(G:ac)=>pj a.2.2.1 a.2.2.2 b.2.2.1 b.2.2.2 G
 have bv:=fun(G:ac)=>fs a.1 a.2.1 b.1 b.2.1 G;obtain⟨aJ,M⟩:=ai (fh a.1 a.2.1 b.1 b.2.1);obtain⟨aT,N⟩:=ai (fh a.2.2.1 a.2.2.2 b.2.2.1 b.2.2.2);obtain⟨aK,T⟩:=ai (db [(a.1,b.1),(a.2.1,b.2.1)]);rw[<-M] at c1;rw[<-N] at c2;rw[<-T] at bv;rw[<-M,<-N,<-T];obtain⟨J,af⟩:=aY c1 c2;clear c1 c2 M N T K bk aS
 cases aJ with
 | true=>
  go_in
  go_wp2_with (first
   | ((with_reducible refine(J.out _).mono ?_);rintro e wc ⟨rfl,k⟩;have an:=R (ax A k)))
  go_ret;exact⟨rfl,an.out⟩
 | false=>
  cases aK with
  | false=>
   go_in
   go_wp2_with (first
    | ((with_reducible refine(J.out _).mono ?_);rintro e wc ⟨rfl,k⟩;have an:=R (ax A k);have a0:=V a0 k;have ao:=V ao k;have aF:=V aF k;have ap:=V ap k))
   go_ret;exact⟨rfl,an.out⟩
  | true=>
   go_in
   go_wp2_with (first
    | ((with_reducible refine(J.out _).mono ?_);rintro e wc ⟨rfl,k⟩;have an:=R (ax A k);have a0:=V a0 k;have ao:=V ao k;have a2:=V a2 k;have aw:=V aw k;have aF:=V aF k;have ap:=V ap k;have ak:=V ak k;have a7:=V a7 k)
    | ((with_reducible refine(af.out _).mono ?_);rintro e bE ⟨rfl,k⟩;have aD:=R (ax an.out k)))
   go_ret;exact⟨cW (by simp),aD.out⟩
end
section
open Go.RowKit Go.Maps
variable {l:List bP}{c q:Nat}{A:Option Addr}{w:ac}
theorem lH:(Tryz.prog.info? 44).map (fun i=>(i.zero,i.size,i.bytes))=D (D (aq #[B o 0, B o 0, B o 0, B o 0, B o 0]),5,40):=by kernel_rfl
theorem yd(a b:bP)(w:ac):(binOp .eql 44 (aq #[B o a.1.1, B o a.1.2.1, B o a.1.2.2.1, B o a.1.2.2.2, B o a.2]) (aq #[B o b.1.1, B o b.1.2.1, B o b.1.2.2.1, B o b.1.2.2.2, B o b.2])).run aj w= .ok (aa (au (a=b))) w:=by
 have h:(binOp .eql 44 (aq #[B o a.1.1, B o a.1.2.1, B o a.1.2.2.1, B o a.1.2.2.2, B o a.2]) (aq #[B o b.1.1, B o b.1.2.1, B o b.1.2.2.1, B o b.1.2.2.2, B o b.2])).run aj w= .ok (aa (db [(a.1.1,b.1.1),(a.1.2.1,b.1.2.1),(a.1.2.2.1,b.1.2.2.1),(a.1.2.2.2,b.1.2.2.2),(a.2,b.2)])) w:=by
  simp[go_sem,db]
  repeat (first | rfl | (split <;> simp_all))
 rw[h,show db [(a.1.1,b.1.1),(a.1.2.1,b.1.2.1),(a.1.2.2.1,b.1.2.2.1),(a.1.2.2.2,b.1.2.2.2),(a.2,b.2)]=au (a=b) from by
  obtain⟨⟨a0,ao,a2,dX⟩,dY⟩:=a;obtain⟨⟨b0,b1,aC,aM⟩,ah⟩:=b;rw[e1];simp[db,and_assoc]]
theorem Rd.xj{g n:Nat}{a7:Nat}(h:w.ownsRow a7 44 5 (O (D ⟨g,0,F⟩) n c) n (cV l)){i:Nat}{x:bP}(N:l[i]? =D x)(hn:n=l.length):w.cell? ⟨g,i*5,F⟩=D (B o x.1.1)/\w.cell? ⟨g,i*5+1,F⟩=D (B o x.1.2.1)/\w.cell? ⟨g,i*5+2,F⟩=D (B o x.1.2.2.1)/\w.cell? ⟨g,i*5+3,F⟩=D (B o x.1.2.2.2)/\w.cell? ⟨g,i*5+4,F⟩=D (B o x.2):=by
 have al:=(bM.1 N).1;obtain⟨b,bD,e,_,hc⟩:=(Rd.dB h).2 (by omega);cases e
 have q:=fun j u aU=>hc _ u (i4 kj (j:=j) N aU);simp only[Nat.zero_add] at q;exact⟨q 0 _ rfl,q 1 _ rfl,q 2 _ rfl,q 3 _ rfl,q 4 _ rfl⟩
theorem vk(h:Rd w 5 A l.length (cV l))(dL:q<=l.length):Rd w 5 A q (cV (l.take q)):=by
 have e:cV l=cV (l.take q)++cV (l.drop q):=by rw[<-nZ,qr]
 refine⟨by rw[kk];simp;omega,fun h0=> ?_⟩;obtain⟨b,bD,ap,ak,cx⟩:=h.2 (by omega);refine⟨b,bD,ap,ak,fun j u aN=>cx j u ?_⟩;rw[e,List.getElem?_append_left (bM.1 aN).1];exact aN
theorem vj(h:Rd w 5 A l.length (cV l))(dL:q<=l.length)(hc:l.length<=c):Rd w 5 (if c=q then A else Option.map (fun x=>x.add (q*5)) A) (l.length-q) (cV (l.drop q)):=by
 have e:cV l=cV (l.take q)++cV (l.drop q):=by rw[<-nZ,qr]
 rcases Nat.lt_or_ge q l.length with h0 | h0
 ·obtain⟨b,bD,ap,ak,cx⟩:=h.2 (by omega)
  subst ap;rw[if_neg (by omega)];simp only[Option.map_some,fW];refine⟨by rw[kk,List.length_drop],fun h0=>⟨b,_,rfl,ak,fun j u aN=> ?_⟩⟩;have av:(cV (l.take q)).length=q*5:=by rw[kk,List.length_take];omega
  have:=cx (q*5+j) u (by rw[e,List.getElem?_append_right (by omega),av,Nat.add_sub_cancel_left];exact aN);rw[<-Nat.add_assoc] at this;exact this
 ·exact⟨by rw[kk,List.length_drop],fun h1=>by omega⟩
theorem sE{T E:TypeId}{z:ae}{aL bytes:Nat}(bi:Tryz.prog.underlying T=D (.slice E))(dx:(Tryz.prog.info? E).map (fun i=>(i.zero,i.size,i.bytes))=D (D z,aL,bytes))
  (dT:z.cells.size=aL) (hsz:0 < aL) (dz:bytes<=4096)
  {ops:Array Oper} {rest:List Oper} {af:Oper} {a:Act} {cO:Exit->Act->ac->Prop} (cU:af.guard=F) (s x:Operand)
  (cX:af.op= .call {callee:= .builtin .append,args:=#[s,x],argTypes:=#[T,T]})
  (a1:Nat) (v:ae) (n:Nat) (bJ bt:List ae) (a3:a.eval s=v) (bA:w.ownsRow a1 E aL v n bJ) (cT:a1<=w.heap.size)
  (A:Option Addr) (m c:Nat) (N:a.eval x= O A m c) (hA:A=F->c=0) (bq:Rd w aL A m bt) (h1:∀u ∈ bt,u.oneCell'=S) (hn:n+m<=2147483648)
  (h:∀a8 Z,Z.ownsRow a1 E aL a8 (n+m) (bJ++bt)->Below a1 w Z->w.grownBy Z v.ownBlock->wpList aj ops cO rest (a.put af.dst a8) Z):
  wpList aj ops cO (af::rest) a w:=by
 obtain⟨cY,al,dP,dQ,dS⟩:=info_parts dx;have d8:(n+m)*bytes<=2147483648*4096:=Nat.mul_le_mul hn dz
 cases A with
 | none=>
  have ar:m=0:=by
   rcases Nat.eq_zero_or_pos m with ar | ar
   ·exact ar
   obtain⟨b,bD,e,_⟩:=bq.2 ar;cases e
  subst ar;have hc:=hA rfl;subst hc;have dK:bt= []:=List.length_eq_zero_iff.1 (by simpa using bq.1);subst dK;exact wpList_append_own_none cU s x T cX a1 E cY aL bi al v n bJ a3 bA N (h v w (by simpa using bA) aX ⟨rfl,rfl,rfl,ce,fun _ _ _=>rfl⟩)
 | some dw=>
  refine wpList_append_own_at _ cU s x T cX a1 E cY z aL bytes bi al dP dQ dS dT hsz v n bJ a3 bA dw m c bt N bq.1 ?_ h1 (by simp only[maxLen];omega) (by omega) cT ?_
  ·intro j u aU
   have ar:0 < m:=by
    have ab:=(bM.1 aU).1;have ag:=bq.1;rcases Nat.eq_zero_or_pos m with ar | ar
    ·rw[ar,Nat.zero_mul] at ag;omega
    ·exact ar
   obtain⟨dZ,eb,e,_,hc⟩:=bq.2 ar;cases e
   rw[fW];exact hc j u aU
  intro a8 Z ab ag _ _;exact h a8 Z ab (aX.grown ag cT (fun k dC=>(bA.lt k dC).1)) ag
theorem oW(l:List bP):∀u ∈ cV l,u.oneCell'=S:=by
 intro u aU;simp only[cV,List.mem_flatMap] at aU;obtain⟨a,_,h⟩:=aU;exact nY a u h
theorem vh(a7:Nat)(v:ae)(l:List bP)(c:bP)(w:ac)(bC:w.ownsRow a7 44 5 v l.length (cV l))(aK:a7<=w.heap.size)(av:l.length<=1000000):
  bB aj 35 #[v,mC c] w fun e Z=>∃a8,e= .returned a8/\Z.ownsRow a7 44 5 a8 (ej l c).length (cV (ej l c))/\Below w.heap.size w Z:=by
 obtain⟨aF,cl,dO,d6,d7⟩:=dd bC;subst dO;have bx:=oq bC;have bg:=aQ w (Y #[B o c.1.1, B o c.1.2.1, B o c.1.2.2.1, B o c.1.2.2.2, B o c.2] 44);have bz:=aV w (Y #[B o c.1.1, B o c.1.2.1, B o c.1.2.2.1, B o c.1.2.2.2, B o c.2] 44);obtain⟨b0,b1,aC,aM,ah⟩:=mI bg;have a4:=bo bC bz;obtain⟨cN,cL⟩:=aY a4 bz;have cR:=ec aK bz.size;clear bC a4 bz bg;go_in
 go_wp2_with fail
 generalize w.alloc (Y #[B o c.1.1, B o c.1.2.1, B o c.1.2.2.1, B o c.1.2.2.2, B o c.2] 44)=w0 at b0 b1 aC aM ah cN cL cR |-;go_loopw [5] (fun z wr=>∃j:Nat,j<=jS l c/\z= B o j/\Hid (Below w0.heap.size w0 wr)) (fun z _=>l.length-(intOf z).toNat)
 case atStart=>exact⟨0,by omega,rfl,R aX⟩
 obtain⟨j,aN,rfl,az⟩:=hrel;obtain⟨bu,rfl⟩:=ai wr;have d5:jS l c<=l.length:=p2 _ _;obtain⟨bh,cg⟩:=aY (bo cN.out az.out) (ax cL.out az.out);have cQ:=ec cR az.out.size;replace b0:=V b0 az.out;replace b1:=V b1 az.out;replace aC:=V aC az.out;replace aM:=V aM az.out;replace ah:=V ah az.out;have c0:=az;clear az;by_cases dA:j < l.length
 ·obtain⟨x,N⟩:∃x,l[j]? =D x:=⟨_,bb dA⟩
  obtain⟨g,d1,_,dN,_,_,_,_⟩:=dF bh.out (show 0 < l.length by omega);injection dN with aZ bm q3
  clear bm q3;subst aZ;obtain⟨bE,bF,bG,bH,bI⟩:=Rd.xj bh.out N rfl;have d4:(j:Int) < (l.length:Int):=by omega
  have d3:(0:Int)<=(j:Int):=by omega
  obtain⟨y,cz⟩:∃b,b=fD x.1 c.1:=⟨_,rfl⟩;obtain⟨J,cA⟩:∃b,b=au (x.1=c.1):=⟨_,rfl⟩;obtain⟨aB,cC⟩:∃b,b=au (x.2 < c.2):=⟨_,rfl⟩;have cW:fi x c=(y || (J && aB)):=by unfold fi;rw[cz,cA,cC]
  have cw:=fun W':ac=>t2 x.1 c.1 W';rw[<-cz] at cw;have cK:=R cw;have ct:∀Z:ac,(binOp .eql 42 (aq #[B o x.1.1, B o x.1.2.1, B o x.1.2.2.1, B o x.1.2.2.2]) (aq #[B o c.1.1, B o c.1.2.1, B o c.1.2.2.1, B o c.1.2.2.2])).run aj Z= .ok (aa J) Z:=fun Z=>by
   have h:=q2 x.1.1 x.1.2.1 x.1.2.2.1 x.1.2.2.2 c.1.1 c.1.2.1 c.1.2.2.1 c.1.2.2.2 Z;rw[h,cA]
   congr 2
   rw[e1];exact(hB x.1 c.1).trans decide_eq_true_iff.symm
  have cP:=R ct;have cZ:∀Z:ac,(binOp .eql 44 (aq #[B o x.1.1, B o x.1.2.1, B o x.1.2.2.1, B o x.1.2.2.2, B o x.2]) (aq #[B o c.1.1, B o c.1.2.1, B o c.1.2.2.1, B o c.1.2.2.2, B o c.2])).run aj Z= .ok (aa (au (x=c))) Z:=yd x c;obtain⟨c5,cJ,bw,be⟩:=df cZ cC.symm N cW;clear cz cA cC cw ct cZ N cW
  go_wp2_with fail
  obtain⟨c6,bN⟩:∃I:ae,Hid (I=(bif (!y) then O (D ⟨g,0,F⟩) l.length cl else U)):=⟨_,R rfl⟩;obtain⟨c7,bO⟩:∃I:ae,Hid (I=(bif (!y) then B o (j:Int) else U)):=⟨_,R rfl⟩;obtain⟨c8,bQ⟩:∃I:ae,Hid (I=(bif (!y) then ad (D ⟨g,j*5,F⟩) else U)):=⟨_,R rfl⟩;obtain⟨c9,bR⟩:∃I:ae,Hid (I=(bif (!y) then ad (D ⟨g,j*5,F⟩) else U)):=⟨_,R rfl⟩;obtain⟨da,bT⟩:∃I:ae,Hid (I=(bif (!y) then bS x.1 else U)):=⟨_,R rfl⟩;obtain⟨dc,bU⟩:∃I:ae,Hid (I=(bif (!y) then ad (D ⟨w.heap.size,0,F⟩) else U)):=⟨_,R rfl⟩;obtain⟨de,bV⟩:∃I:ae,Hid (I=(bif (!y) then bS c.1 else U)):=⟨_,R rfl⟩
  obtain⟨dg,bX⟩:∃I:ae,Hid (I=(bif (!y) then aa J else U)):=⟨_,R rfl⟩;obtain⟨dh,an⟩:∃I:ae,Hid (I=(bif (!y) then aa J else U)):=⟨_,R rfl⟩;obtain⟨di,bY⟩:∃I:ae,Hid (I=(bif ((!y) && J) then O (D ⟨g,0,F⟩) l.length cl else U)):=⟨_,R rfl⟩;obtain⟨dj,bZ⟩:∃I:ae,Hid (I=(bif ((!y) && J) then B o (j:Int) else U)):=⟨_,R rfl⟩;obtain⟨dk,b2⟩:∃I:ae,Hid (I=(bif ((!y) && J) then ad (D ⟨g,j*5,F⟩) else U)):=⟨_,R rfl⟩;obtain⟨dl,b3⟩:∃I:ae,Hid (I=(bif ((!y) && J) then ad (D ⟨g,j*5+4,F⟩) else U)):=⟨_,R rfl⟩;obtain⟨dm,b4⟩:∃I:ae,Hid (I=(bif ((!y) && J) then B o x.2 else U)):=⟨_,R rfl⟩
  obtain⟨dp,b5⟩:∃I:ae,Hid (I=(bif ((!y) && J) then ad (D ⟨w.heap.size,4,F⟩) else U)):=⟨_,R rfl⟩;obtain⟨dq,b6⟩:∃I:ae,Hid (I=(bif ((!y) && J) then B o c.2 else U)):=⟨_,R rfl⟩;obtain⟨dr,b7⟩:∃I:ae,Hid (I=(bif ((!y) && J) then aa aB else U)):=⟨_,R rfl⟩;obtain⟨dt,b8⟩:∃I:ae,Hid (I=(bif (!y) then aa (J && aB) else U)):=⟨_,R rfl⟩;obtain⟨du,b9⟩:∃I:ae,Hid (I= aa (y || (J && aB))):=⟨_,R rfl⟩;obtain⟨dv,ca⟩:∃I:ae,Hid (I= aa (y || (J && aB))):=⟨_,R rfl⟩;refine bW (fin:= ?z2) [B o (j:Int), O (D ⟨g,0,F⟩) l.length cl, B o (l.length:Int), aa S, aa S, O (D ⟨g,0,F⟩) l.length cl, B o (j:Int), ad (D ⟨g,j*5,F⟩), ad (D ⟨g,j*5,F⟩),bS x.1, ad (D ⟨w.heap.size,0,F⟩),bS c.1, aa y, aa y,c6,c7,c8,c9,da,dc,de,dg,dh,di,dj,dk,dl,dm,dp,dq,dr,dt,du,dv] ?hf bp (by kernel_rfl) rfl fun L hst=> ?_
  case hf=>simp only[aT,a6,bd,ba,bc];exact rfl
  have M:=R hst;have am:=hst;obtain⟨b0,b1,aC,aM,ah,bE,bF,bG,bH,bI⟩:=la am b0 b1 aC aM ah bE bF bG bH bI;constructor
  ·iterate 34 refine⟨?_,fun K G=> ?_⟩
   ·trivial
   ·obtain rfl:=ca.out
    obtain rfl:=b9.out;generalize (y || (J && aB))=y0 at G |-;cases y0 <;> (go_simp;exact G _ M.out)
   ·obtain rfl:=b9.out
    obtain rfl:=b8.out;generalize (J && aB)=y1 at G |-;cases y <;> cases y1 <;> (go_simp;exact G _ M.out)
   ·obtain rfl:=b8.out
    obtain rfl:=an.out;obtain rfl:=b7.out;cases y <;> cases J <;> cases aB <;> (go_simp;exact G _ M.out)
   ·have d2:=cJ.out
    obtain rfl:=b7.out;obtain rfl:=an.out;obtain rfl:=b4.out;obtain rfl:=b6.out;generalize (!y)=y0 at G |-;cases y0 <;> cases J <;> (go_simp;exact G _ M.out)
   ·obtain rfl:=b6.out
    obtain rfl:=an.out;obtain rfl:=b5.out;generalize (!y)=y0 at G |-;cases y0 <;> cases J <;> (go_simp;exact G _ M.out)
   ·obtain rfl:=b5.out
    obtain rfl:=an.out;generalize (!y)=y0 at G |-;cases y0 <;> cases J <;> (go_simp;exact G _ M.out)
   ·obtain rfl:=b4.out
    obtain rfl:=an.out;obtain rfl:=b3.out;generalize (!y)=y0 at G |-;cases y0 <;> cases J <;> (go_simp;exact G _ M.out)
   ·obtain rfl:=b3.out
    obtain rfl:=an.out;obtain rfl:=b2.out;generalize (!y)=y0 at G |-;cases y0 <;> cases J <;> (go_simp;exact G _ M.out)
   ·obtain rfl:=b2.out
    obtain rfl:=an.out;obtain rfl:=bY.out;obtain rfl:=bZ.out;generalize (!y)=y0 at G |-;cases y0 <;> cases J <;> (go_simp;exact G _ M.out)
   ·obtain rfl:=bZ.out
    obtain rfl:=an.out;generalize (!y)=y0 at G |-;cases y0 <;> cases J <;> (go_simp;exact G _ M.out)
   ·obtain rfl:=bY.out
    obtain rfl:=an.out;generalize (!y)=y0 at G |-;cases y0 <;> cases J <;> (go_simp;exact G _ M.out)
   ·obtain rfl:=an.out
    obtain rfl:=bX.out;cases y <;> cases J <;> (go_simp;exact G _ M.out)
   ·have r:=cP.out
    obtain rfl:=bX.out;obtain rfl:=bT.out;obtain rfl:=bV.out;cases y <;> (go_simp;exact G _ M.out)
   ·obtain rfl:=bV.out
    obtain rfl:=bU.out;cases y <;> (go_simp;exact G _ M.out)
   ·obtain rfl:=bU.out
    cases y <;> (go_simp;exact G _ M.out)
   ·obtain rfl:=bT.out
    obtain rfl:=bR.out;cases y <;> (go_simp;exact G _ M.out)
   ·obtain rfl:=bR.out
    obtain rfl:=bQ.out;cases y <;> (go_simp;exact G _ M.out)
   ·obtain rfl:=bQ.out
    obtain rfl:=bN.out;obtain rfl:=bO.out;cases y <;> (go_simp;exact G _ M.out)
   ·obtain rfl:=bO.out
    cases y <;> (go_simp;exact G _ M.out)
   ·obtain rfl:=bN.out
    cases y <;> (go_simp;exact G _ M.out)
   ·cases y <;> (go_simp;exact G _ M.out)
   ·go_simp;exact aw (cK.out L) fun wc dy=>G _ (ax am dy)
   iterate 12 (go_simp;exact G _ M.out)
  obtain rfl:=ca.out;clear bN bO bQ bR bT bU bV bX an bY bZ b2 b3 b4 b5 b6 b7 b8 b9 ca;have aW:=R am;clear am cK cP cJ;obtain⟨s,a3⟩:=ai ((y || (J && aB)));simp only[<-a3];rw[<-a3] at be;clear a3
  cases s with
  | true=>
   have hst:j+1<=jS l c:=p3 (p:=fun x=>fi x c) bw.out be.out aN;have ea:IntKind.i64.wrap ((j:Int)+1)=((j+1:Nat):Int):=by rw[IntWalk.i64_in _ (by omega)];omega
   have c3:=R (ax (show Below w0.heap.size w0 bu from c0.out) aW.out);clear be;go_wp2;go_roundw
   case rel=>exact⟨j+1,hst,by first | rfl | go_num,c3⟩
   case measure=>simp[intOf];omega
  | false=>
   have bl:jS l c=j:=p4 (p:=fun x=>fi x c) bw.out be.out aN;have cM:=R bl;clear be bl
   go_wp2_with fail
   refine dR (fin:= ?z4) [B o (j:Int), O (D ⟨g,0,F⟩) l.length cl, B o (l.length:Int), aa S, aa S, O (D ⟨g,0,F⟩) l.length cl, B o (j:Int), ad (D ⟨g,j*5,F⟩),mC x,mC c, aa (au (x=c)), aa (au (x=c))] (fun L=>L.cell? ⟨w.heap.size,0,F⟩=D (B o c.1.1)/\L.cell? ⟨w.heap.size,1,F⟩=D (B o c.1.2.1)/\L.cell? ⟨w.heap.size,2,F⟩=D (B o c.1.2.2.1)/\L.cell? ⟨w.heap.size,3,F⟩=D (B o c.1.2.2.2)/\L.cell? ⟨w.heap.size,4,F⟩=D (B o c.2)/\L.cell? ⟨g,j*5,F⟩=D (B o x.1.1)/\L.cell? ⟨g,j*5+1,F⟩=D (B o x.1.2.1)/\L.cell? ⟨g,j*5+2,F⟩=D (B o x.1.2.2.1)/\L.cell? ⟨g,j*5+3,F⟩=D (B o x.1.2.2.2)/\L.cell? ⟨g,j*5+4,F⟩=D (B o x.2)/\Below bu.heap.size bu L) ?hf bp (by kernel_rfl) rfl ⟨b0,b1,aC,aM,ah,bE,bF,bG,bH,bI,aW.out.drew⟩ fun L hst=> ?_
   case hf=>simp only[aT,a6,bd,ba,bc];exact rfl
   have bf:=R hst;obtain⟨b0,b1,aC,aM,ah,bE,bF,bG,bH,bI,am⟩:=hst;constructor
   ·iterate 12 refine⟨?_,fun K G=> ?_⟩
    ·trivial
    ·generalize (au (x=c))=y0 at G |-
     cases y0 <;> (go_simp;exact G _ bf.out)
    ·have r:=c5.out
     (go_simp;exact G _ bf.out)
    iterate 10 (go_simp;exact G _ bf.out)
   have aA:=R am;clear am aW;by_cases a5:x=c
   ·have cD:au (x=c)=S:=decide_eq_true a5
    have aE:ej l c=l:=by unfold ej;rw[cM.out,bw.out,a5,if_pos rfl]
    obtain⟨aI,a9,c4⟩:=cq aE (ax cg.out aA.out) (bo bh.out aA.out);clear a5 aE;simp only[cD];go_wp2;exact bodyPost_ret (v:= O (D ⟨g,0,F⟩) l.length cl) (by simp[results,Tryz.results35,go_sem]) rfl ⟨_,rfl,by rw[aI.out];exact c4.out,a9.out⟩
   have cD:au (x=c)=Q:=decide_eq_false a5;have aE:ej l c=l.take j++c::l.drop j:=by
    unfold ej;rw[cM.out,bw.out,if_neg (fun e=>a5 (Option.some.inj e))]
   have aI:=R aE;clear a5 aE;simp only[cD];obtain⟨bv,rfl⟩:=ai L;have cu:=R (bo bh.out aA.out);have cy:=ec cQ aA.out.size;have aR:=Rd.dB cu.out;have br:=vk (q:=j) aR (by omega);have aS:=vj (q:=j) (c:=cl) aR (by omega) (by omega);obtain⟨ay,aD⟩:∃ay:Option Addr,ay=if cl=j then(D ⟨g,0,F⟩:Option Addr) else Option.map (fun x=>x.add (j*5)) ((D ⟨g,0,F⟩:Option Addr)):=⟨_,rfl⟩;rw[<-aD] at aS;have aG:Hid (ay=D ⟨g,j*5,F⟩):=R (by rw[aD,if_neg (by omega)];simp only[Option.map_some,fW,Nat.zero_add]);have bs:ay=F->cl-j=0:=by
    rw[aD];split;·intro _;omega
    intro h;cases hA:((D ⟨g,0,F⟩:Option Addr)) with
    | none=>have:=bx hA;omega
    | some a=>rw[hA] at h;cases h
   obtain⟨cr,cn,cv,cb⟩:=df br aS bs (show((D ⟨g,0,F⟩:Option Addr))=F->cl=0 from bx);have dD:(0:Int)<=(j:Int):=by omega
   have dE:(j:Int)<=(l.length:Int):=by omega
   have dH:(j:Int)<=(cl:Int):=by omega
   have dI:(l.length:Int)<=(cl:Int):=by omega
   clear aR br aS aD bs
   go_wp2_with (first
    | ((fail_if_success (have N:=HDONE));at_builtin;refine mE Tryz.underlying32 lH rfl (by decide) rfl _ _ rfl rfl (D ⟨g,0,F⟩:Option Addr) j cl (cV (l.take j)) rfl cb.out cr.out (oW _) (by omega) (by omega) ?_;intro v1 dU aO P;obtain⟨bK,c1,a4,_,_⟩:=dd aO;subst a4;have HDONE:=trivial;have ci:=R aO;have cd:=R P;replace b0:=V b0 P;replace b1:=V b1 P;replace aC:=V aC P;replace aM:=V aM P;replace ah:=V ah P;have cG:=P.size;clear aO P)
    | ((fail_if_success (have N:=HDONE2));have N:=HDONE;clear N;at_builtin;go_loud (refine i0 Tryz.underlying32 lH rfl (by decide) (by decide) rfl (.tmp 61) (.tmp 63) rfl bv.heap.size (O bK j c1) j (cV (l.take j)) (fM c) rfl ci.out cG 1 _ rfl rfl rfl (nY c) (by omega) ?_);intro v2 dV aP bj cE;obtain⟨bL,c2,cI,_,_⟩:=dd aP;subst cI;have HDONE2:=trivial;have cj:=R aP;have aH:=R (cd.out.trans bj);have hsz2:=aH.out.size;have co:=R (cn.out.below aH.out);clear aP bj cE)
    | (have N:=HDONE2;clear N;at_builtin;go_loud (refine sE Tryz.underlying32 lH rfl (by decide) (by decide) rfl (.tmp 65) (.tmp 68) rfl bv.heap.size (O bL (j+1) c2) (j+1) (cV (l.take j)++fM c) (cV (l.drop j)) rfl cj.out hsz2 ay (l.length-j) (cl-j) (by first | (rw[aG.out];rfl) | (rw[aG.out,mz];rfl) | (simp only[aG.out,mz];rfl)) cv.out co.out (oW _) (by omega) ?_);intro v3 dW bn bk cF;have ck:=R bn;have cf:=R (aH.out.trans bk);clear bn bk cF)
    | fail)
   have aJ:=dn ck.out cy;rw[show cV (l.take j)++fM c++cV (l.drop j)=cV (ej l c) by rw[aI.out,nZ,List.append_assoc];rfl,show j+1+(l.length-j)=(ej l c).length by rw[aI.out];first | (simp;omega) | simp] at aJ;obtain⟨ch,a9⟩:=aY aJ (ax (ax cg.out aA.out) cf.out);clear aJ;exact bodyPost_ret (v:=v3) (by simp[results,Tryz.results35,go_sem]) rfl ⟨_,rfl,ch.out,a9.out⟩
 obtain rfl:j=l.length:=by omega
 have bl:jS l c=l.length:=by omega
 have aE:ej l c=l.take l.length++c::l.drop l.length:=by
  unfold ej;rw[bl,List.getElem?_eq_none ce,if_neg (by simp)]
 have aI:=R aE;have d9:¬((l.length:Int) < (l.length:Int)):=by omega
 clear aE bl
 go_wp2_with fail
 refine bW (fin:= ?z6) [B o (l.length:Int), O aF l.length cl, B o (l.length:Int), aa Q, aa Q,U,U,U,U,U,U,U,U,U,U,U,U,U,U,U,U,U,U,U,U,U,U,U,U,U,U,U,U, aa Q] ?hf bp (by kernel_rfl) rfl fun L hst=> ?_;case hf=>simp only[aT,a6,bd,ba,bc];exact rfl
 have M:=R hst;have am:=hst;obtain⟨b0,b1,aC,aM,ah⟩:=mc am b0 b1 aC aM ah;constructor
 ·iterate 34 refine⟨?_,fun K G=> ?_⟩
  ·trivial
  iterate 34 (go_simp;exact G _ M.out)
 have aW:=R am;clear am
 go_wp2_with fail
 refine dR (fin:= ?z8) [B o (l.length:Int), O aF l.length cl, B o (l.length:Int), aa Q, aa Q,U,U,U,U,U,U, aa Q] (fun L=>L.cell? ⟨w.heap.size,0,F⟩=D (B o c.1.1)/\L.cell? ⟨w.heap.size,1,F⟩=D (B o c.1.2.1)/\L.cell? ⟨w.heap.size,2,F⟩=D (B o c.1.2.2.1)/\L.cell? ⟨w.heap.size,3,F⟩=D (B o c.1.2.2.2)/\L.cell? ⟨w.heap.size,4,F⟩=D (B o c.2)/\Below bu.heap.size bu L) ?hf bp (by kernel_rfl) rfl ⟨b0,b1,aC,aM,ah,aW.out.drew⟩ fun L hst=> ?_;case hf=>simp only[aT,a6,bd,ba,bc];exact rfl
 have bf:=R hst;obtain⟨b0,b1,aC,aM,ah,am⟩:=hst;constructor
 ·iterate 12 refine⟨?_,fun K G=> ?_⟩
  ·trivial
  iterate 12 (go_simp;exact G _ bf.out)
 have aA:=R am;clear am aW;obtain⟨bv,rfl⟩:=ai L;have cu:=R (bo bh.out aA.out);have cy:=ec cQ aA.out.size;have aR:=Rd.dB cu.out;have br:=vk (q:=l.length) aR (by omega);have aS:=vj (q:=l.length) (c:=cl) aR (by omega) (by omega);obtain⟨ay,aD⟩:∃ay:Option Addr,ay=if cl=l.length then aF else Option.map (fun x=>x.add (l.length*5)) (aF):=⟨_,rfl⟩;rw[<-aD] at aS;have aG:=R aD;have bs:ay=F->cl-l.length=0:=by
  rw[aD];split;·intro _;omega
  intro h;cases hA:(aF) with
  | none=>have:=bx hA;omega
  | some a=>rw[hA] at h;cases h
 obtain⟨cr,cn,cv,cb⟩:=df br aS bs (show(aF)=F->cl=0 from bx);have dD:(0:Int)<=(l.length:Int):=by omega
 have dE:(l.length:Int)<=(l.length:Int):=by omega
 have dH:(l.length:Int)<=(cl:Int):=by omega
 have dI:(l.length:Int)<=(cl:Int):=by omega
 clear aR br aS aD bs
 go_wp2_with (first
  | ((fail_if_success (have N:=HDONE));at_builtin;refine mE Tryz.underlying32 lH rfl (by decide) rfl _ _ rfl rfl aF l.length cl (cV (l.take l.length)) rfl cb.out cr.out (oW _) (by omega) (by omega) ?_;intro v1 dU aO P;obtain⟨bK,c1,a4,_,_⟩:=dd aO;subst a4;have HDONE:=trivial;have ci:=R aO;have cd:=R P;replace b0:=V b0 P;replace b1:=V b1 P;replace aC:=V aC P;replace aM:=V aM P;replace ah:=V ah P;have cG:=P.size;clear aO P)
  | ((fail_if_success (have N:=HDONE2));have N:=HDONE;clear N;at_builtin;go_loud (refine i0 Tryz.underlying32 lH rfl (by decide) (by decide) rfl (.tmp 61) (.tmp 63) rfl bv.heap.size (O bK l.length c1) l.length (cV (l.take l.length)) (fM c) rfl ci.out cG 1 _ rfl rfl rfl (nY c) (by omega) ?_);intro v2 dV aP bj cE;obtain⟨bL,c2,cI,_,_⟩:=dd aP;subst cI;have HDONE2:=trivial;have cj:=R aP;have aH:=R (cd.out.trans bj);have hsz2:=aH.out.size;have co:=R (cn.out.below aH.out);clear aP bj cE)
  | (have N:=HDONE2;clear N;at_builtin;go_loud (refine sE Tryz.underlying32 lH rfl (by decide) (by decide) rfl (.tmp 65) (.tmp 68) rfl bv.heap.size (O bL (l.length+1) c2) (l.length+1) (cV (l.take l.length)++fM c) (cV (l.drop l.length)) rfl cj.out hsz2 ay (l.length-l.length) (cl-l.length) (by first | (rw[aG.out];rfl) | (rw[aG.out,mz];rfl) | (simp only[aG.out,mz];rfl)) cv.out co.out (oW _) (by omega) ?_);intro v3 dW bn bk cF;have ck:=R bn;have cf:=R (aH.out.trans bk);clear bn bk cF)
  | fail)
 all_goals
  have aJ:=dn ck.out cy;rw[show cV (l.take l.length)++fM c++cV (l.drop l.length)=cV (ej l c) by rw[aI.out,nZ,List.append_assoc];rfl,show l.length+1+(l.length-l.length)=(ej l c).length by rw[aI.out];first | (simp;omega) | simp] at aJ;obtain⟨ch,a9⟩:=aY aJ (ax (ax cg.out aA.out) cf.out);clear aJ;exact bodyPost_ret (v:=v3) (by simp[results,Tryz.results35,go_sem]) rfl ⟨_,rfl,ch.out,a9.out⟩
end
section
open Go.RowKit Go.Maps
theorem BP(e f:Int)(w:ac):bB aj 38 #[b2 ((-1),0,0,1,e,f)] w fun r Z=>r= .returned (aa (bf ((-1),0,0,1,e,f)))/\Below w.heap.size w Z:=by
 have l:=aV w (Y #[B o (-1), B o 0, B o 0, B o 1, B o e, B o f] 64);have z:=g8 e;have A:=g8 f;cases b:(au (-1000000<=e) && au (e<=1000000))
 ·have i:=R b
  have c:cJ e=Q:=b;have a:Hid (bf ((-1),0,0,1,e,f)=Q):=R (by simp only[bf,cE,c,dG,dJ]);clear b c;go_in
  go_wp2_with fail
  refine(b3 e (-1000000) 1000000 _).mono ?_;rintro r s ⟨rfl,rfl⟩;rw[i.out];go_wp2;go_ret;exact⟨by rw[a.out];rfl,l⟩
 have i:=R b;have c:cJ e=S:=b;cases hf:(au (-1000000<=f) && au (f<=1000000))
 ·have k:=R hf
  have g:cJ f=Q:=hf;have a:Hid (bf ((-1),0,0,1,e,f)=Q):=R (by simp only[bf,cE,g,dG,dJ]);clear b c hf g;go_in
  go_wp2_with fail
  refine(b3 e (-1000000) 1000000 _).mono ?_;rintro r s ⟨rfl,rfl⟩;rw[i.out]
  go_wp2_with fail
  refine(b3 f (-1000000) 1000000 _).mono ?_;rintro r y ⟨rfl,rfl⟩;rw[k.out];go_wp2;go_ret;exact⟨by rw[a.out];rfl,l⟩
 have k:=R hf;have g:cJ f=S:=hf;cases ab:au (e % 2=0)
 ·have a:Hid (bf ((-1),0,0,1,e,f)=Q):=R (by simp only[bf,cE,ab,dG,dJ])
  clear b c hf g;go_in
  go_wp2_with fail
  refine(b3 e (-1000000) 1000000 _).mono ?_;rintro r s ⟨rfl,rfl⟩;rw[i.out]
  go_wp2_with fail
  refine(b3 f (-1000000) 1000000 _).mono ?_;rintro r y ⟨rfl,rfl⟩;rw[k.out];go_wp2;go_ret;exact⟨by rw[a.out];rfl,l⟩
 cases ag:au (f % 2=0)
 ·have a:Hid (bf ((-1),0,0,1,e,f)=Q):=R (by simp only[bf,cE,ag,dG,dJ])
  clear b c hf g;go_in
  go_wp2_with fail
  refine(b3 e (-1000000) 1000000 _).mono ?_;rintro r s ⟨rfl,rfl⟩;rw[i.out]
  go_wp2_with fail
  refine(b3 f (-1000000) 1000000 _).mono ?_;rintro r y ⟨rfl,rfl⟩;rw[k.out];go_wp2;go_ret;exact⟨by rw[a.out];rfl,l⟩
 have a:Hid (bf ((-1),0,0,1,e,f)=S):=R (by simp only[bf,cE,c,g,ab,ag];rfl);clear b c hf g;go_in
 go_wp2_with fail
 refine(b3 e (-1000000) 1000000 _).mono ?_;rintro r s ⟨rfl,rfl⟩;rw[i.out]
 go_wp2_with fail
 refine(b3 f (-1000000) 1000000 _).mono ?_;rintro r y ⟨rfl,rfl⟩;rw[k.out];go_wp2;go_ret;exact⟨by rw[a.out];rfl,l⟩
theorem BQ(e f:Int)(w:ac):bB aj 38 #[b2 (1,0,0,(-1),e,f)] w fun r Z=>r= .returned (aa (bf (1,0,0,(-1),e,f)))/\Below w.heap.size w Z:=by
 have l:=aV w (Y #[B o 1, B o 0, B o 0, B o (-1), B o e, B o f] 64);have z:=g8 e;have A:=g8 f;cases b:(au (-1000000<=e) && au (e<=1000000))
 ·have i:=R b
  have c:cJ e=Q:=b;have a:Hid (bf (1,0,0,(-1),e,f)=Q):=R (by simp only[bf,cE,c,dG,dJ]);clear b c;go_in
  go_wp2_with fail
  refine(b3 e (-1000000) 1000000 _).mono ?_;rintro r s ⟨rfl,rfl⟩;rw[i.out];go_wp2;go_ret;exact⟨by rw[a.out];rfl,l⟩
 have i:=R b;have c:cJ e=S:=b;cases hf:(au (-1000000<=f) && au (f<=1000000))
 ·have k:=R hf
  have g:cJ f=Q:=hf;have a:Hid (bf (1,0,0,(-1),e,f)=Q):=R (by simp only[bf,cE,g,dG,dJ]);clear b c hf g;go_in
  go_wp2_with fail
  refine(b3 e (-1000000) 1000000 _).mono ?_;rintro r s ⟨rfl,rfl⟩;rw[i.out]
  go_wp2_with fail
  refine(b3 f (-1000000) 1000000 _).mono ?_;rintro r y ⟨rfl,rfl⟩;rw[k.out];go_wp2;go_ret;exact⟨by rw[a.out];rfl,l⟩
 have k:=R hf;have g:cJ f=S:=hf;cases ab:au (e % 2=0)
 ·have a:Hid (bf (1,0,0,(-1),e,f)=Q):=R (by simp only[bf,cE,ab,dG,dJ])
  clear b c hf g;go_in
  go_wp2_with fail
  refine(b3 e (-1000000) 1000000 _).mono ?_;rintro r s ⟨rfl,rfl⟩;rw[i.out]
  go_wp2_with fail
  refine(b3 f (-1000000) 1000000 _).mono ?_;rintro r y ⟨rfl,rfl⟩;rw[k.out];go_wp2;go_ret;exact⟨by rw[a.out];rfl,l⟩
 cases ag:au (f % 2=0)
 ·have a:Hid (bf (1,0,0,(-1),e,f)=Q):=R (by simp only[bf,cE,ag,dG,dJ])
  clear b c hf g;go_in
  go_wp2_with fail
  refine(b3 e (-1000000) 1000000 _).mono ?_;rintro r s ⟨rfl,rfl⟩;rw[i.out]
  go_wp2_with fail
  refine(b3 f (-1000000) 1000000 _).mono ?_;rintro r y ⟨rfl,rfl⟩;rw[k.out];go_wp2;go_ret;exact⟨by rw[a.out];rfl,l⟩
 have a:Hid (bf (1,0,0,(-1),e,f)=S):=R (by simp only[bf,cE,c,g,ab,ag];rfl);clear b c hf g;go_in
 go_wp2_with fail
 refine(b3 e (-1000000) 1000000 _).mono ?_;rintro r s ⟨rfl,rfl⟩;rw[i.out]
 go_wp2_with fail
 refine(b3 f (-1000000) 1000000 _).mono ?_;rintro r y ⟨rfl,rfl⟩;rw[k.out];go_wp2;go_ret;exact⟨by rw[a.out];rfl,l⟩
theorem BS(e f:Int)(w:ac):bB aj 38 #[b2 (0,(-1),(-1),0,e,f)] w fun r Z=>r= .returned (aa (bf (0,(-1),(-1),0,e,f)))/\Below w.heap.size w Z:=by
 have l:=aV w (Y #[B o 0, B o (-1), B o (-1), B o 0, B o e, B o f] 64);have z:=g8 e;have A:=g8 f;cases b:(au (-1000000<=e) && au (e<=1000000))
 ·have i:=R b
  have c:cJ e=Q:=b;have a:Hid (bf (0,(-1),(-1),0,e,f)=Q):=R (by simp only[bf,cE,c,dG,dJ]);clear b c;go_in
  go_wp2_with fail
  refine(b3 e (-1000000) 1000000 _).mono ?_;rintro r s ⟨rfl,rfl⟩;rw[i.out];go_wp2;go_ret;exact⟨by rw[a.out];rfl,l⟩
 have i:=R b;have c:cJ e=S:=b;cases hf:(au (-1000000<=f) && au (f<=1000000))
 ·have k:=R hf
  have g:cJ f=Q:=hf;have a:Hid (bf (0,(-1),(-1),0,e,f)=Q):=R (by simp only[bf,cE,g,dG,dJ]);clear b c hf g;go_in
  go_wp2_with fail
  refine(b3 e (-1000000) 1000000 _).mono ?_;rintro r s ⟨rfl,rfl⟩;rw[i.out]
  go_wp2_with fail
  refine(b3 f (-1000000) 1000000 _).mono ?_;rintro r y ⟨rfl,rfl⟩;rw[k.out];go_wp2;go_ret;exact⟨by rw[a.out];rfl,l⟩
 have k:=R hf;have g:cJ f=S:=hf;cases ab:au (e % 2=0)
 ·have a:Hid (bf (0,(-1),(-1),0,e,f)=Q):=R (by simp only[bf,cE,ab,dG,dJ])
  clear b c hf g;go_in
  go_wp2_with fail
  refine(b3 e (-1000000) 1000000 _).mono ?_;rintro r s ⟨rfl,rfl⟩;rw[i.out]
  go_wp2_with fail
  refine(b3 f (-1000000) 1000000 _).mono ?_;rintro r y ⟨rfl,rfl⟩;rw[k.out];go_wp2;go_ret;exact⟨by rw[a.out];rfl,l⟩
 cases ag:au (f % 2=0)
 ·have a:Hid (bf (0,(-1),(-1),0,e,f)=Q):=R (by simp only[bf,cE,ag,dG,dJ])
  clear b c hf g;go_in
  go_wp2_with fail
  refine(b3 e (-1000000) 1000000 _).mono ?_;rintro r s ⟨rfl,rfl⟩;rw[i.out]
  go_wp2_with fail
  refine(b3 f (-1000000) 1000000 _).mono ?_;rintro r y ⟨rfl,rfl⟩;rw[k.out];go_wp2;go_ret;exact⟨by rw[a.out];rfl,l⟩
 have a:Hid (bf (0,(-1),(-1),0,e,f)=S):=R (by simp only[bf,cE,c,g,ab,ag];rfl);clear b c hf g;go_in
 go_wp2_with fail
 refine(b3 e (-1000000) 1000000 _).mono ?_;rintro r s ⟨rfl,rfl⟩;rw[i.out]
 go_wp2_with fail
 refine(b3 f (-1000000) 1000000 _).mono ?_;rintro r y ⟨rfl,rfl⟩;rw[k.out];go_wp2;go_ret;exact⟨by rw[a.out];rfl,l⟩
theorem BT(e f:Int)(w:ac):bB aj 38 #[b2 (0,1,1,0,e,f)] w fun r Z=>r= .returned (aa (bf (0,1,1,0,e,f)))/\Below w.heap.size w Z:=by
 have l:=aV w (Y #[B o 0, B o 1, B o 1, B o 0, B o e, B o f] 64);have z:=g8 e;have A:=g8 f;cases b:(au (-1000000<=e) && au (e<=1000000))
 ·have i:=R b
  have c:cJ e=Q:=b;have a:Hid (bf (0,1,1,0,e,f)=Q):=R (by simp only[bf,cE,c,dG,dJ]);clear b c;go_in
  go_wp2_with fail
  refine(b3 e (-1000000) 1000000 _).mono ?_;rintro r s ⟨rfl,rfl⟩;rw[i.out];go_wp2;go_ret;exact⟨by rw[a.out];rfl,l⟩
 have i:=R b;have c:cJ e=S:=b;cases hf:(au (-1000000<=f) && au (f<=1000000))
 ·have k:=R hf
  have g:cJ f=Q:=hf;have a:Hid (bf (0,1,1,0,e,f)=Q):=R (by simp only[bf,cE,g,dG,dJ]);clear b c hf g;go_in
  go_wp2_with fail
  refine(b3 e (-1000000) 1000000 _).mono ?_;rintro r s ⟨rfl,rfl⟩;rw[i.out]
  go_wp2_with fail
  refine(b3 f (-1000000) 1000000 _).mono ?_;rintro r y ⟨rfl,rfl⟩;rw[k.out];go_wp2;go_ret;exact⟨by rw[a.out];rfl,l⟩
 have k:=R hf;have g:cJ f=S:=hf;cases ab:au (e % 2=0)
 ·have a:Hid (bf (0,1,1,0,e,f)=Q):=R (by simp only[bf,cE,ab,dG,dJ])
  clear b c hf g;go_in
  go_wp2_with fail
  refine(b3 e (-1000000) 1000000 _).mono ?_;rintro r s ⟨rfl,rfl⟩;rw[i.out]
  go_wp2_with fail
  refine(b3 f (-1000000) 1000000 _).mono ?_;rintro r y ⟨rfl,rfl⟩;rw[k.out];go_wp2;go_ret;exact⟨by rw[a.out];rfl,l⟩
 cases ag:au (f % 2=0)
 ·have a:Hid (bf (0,1,1,0,e,f)=Q):=R (by simp only[bf,cE,ag,dG,dJ])
  clear b c hf g;go_in
  go_wp2_with fail
  refine(b3 e (-1000000) 1000000 _).mono ?_;rintro r s ⟨rfl,rfl⟩;rw[i.out]
  go_wp2_with fail
  refine(b3 f (-1000000) 1000000 _).mono ?_;rintro r y ⟨rfl,rfl⟩;rw[k.out];go_wp2;go_ret;exact⟨by rw[a.out];rfl,l⟩
 have a:Hid (bf (0,1,1,0,e,f)=S):=R (by simp only[bf,cE,c,g,ab,ag];rfl);clear b c hf g;go_in
 go_wp2_with fail
 refine(b3 e (-1000000) 1000000 _).mono ?_;rintro r s ⟨rfl,rfl⟩;rw[i.out]
 go_wp2_with fail
 refine(b3 f (-1000000) 1000000 _).mono ?_;rintro r y ⟨rfl,rfl⟩;rw[k.out];go_wp2;go_ret;exact⟨by rw[a.out];rfl,l⟩
end
section
open Go.RowKit Go.Maps
theorem BU(e f:Int)(w:ac):bB aj 38 #[b2 (1,0,0,1,e,f)] w fun r Z=>r= .returned (aa (bf (1,0,0,1,e,f)))/\Below w.heap.size w Z:=by
 have l:=aV w (Y #[B o 1, B o 0, B o 0, B o 1, B o e, B o f] 64);have z:=g8 e;have A:=g8 f;cases b:(au (-1000000<=e) && au (e<=1000000))
 ·have i:=R b
  have c:cJ e=Q:=b;have a:Hid (bf (1,0,0,1,e,f)=Q):=R (by simp only[bf,cE,c,dG,dJ]);clear b c;go_in
  go_wp2_with fail
  refine(b3 e (-1000000) 1000000 _).mono ?_;rintro r s ⟨rfl,rfl⟩;rw[i.out];go_wp2;go_ret;exact⟨by rw[a.out];rfl,l⟩
 have i:=R b;have c:cJ e=S:=b;cases hf:(au (-1000000<=f) && au (f<=1000000))
 ·have k:=R hf
  have g:cJ f=Q:=hf;have a:Hid (bf (1,0,0,1,e,f)=Q):=R (by simp only[bf,cE,g,dG,dJ]);clear b c hf g;go_in
  go_wp2_with fail
  refine(b3 e (-1000000) 1000000 _).mono ?_;rintro r s ⟨rfl,rfl⟩;rw[i.out]
  go_wp2_with fail
  refine(b3 f (-1000000) 1000000 _).mono ?_;rintro r y ⟨rfl,rfl⟩;rw[k.out];go_wp2;go_ret;exact⟨by rw[a.out];rfl,l⟩
 have k:=R hf;have g:cJ f=S:=hf;cases ab:au (e % 2=0)
 ·have a:Hid (bf (1,0,0,1,e,f)=Q):=R (by simp only[bf,cE,ab,dG,dJ])
  clear b c hf g;go_in
  go_wp2_with fail
  refine(b3 e (-1000000) 1000000 _).mono ?_;rintro r s ⟨rfl,rfl⟩;rw[i.out]
  go_wp2_with fail
  refine(b3 f (-1000000) 1000000 _).mono ?_;rintro r y ⟨rfl,rfl⟩;rw[k.out];go_wp2;go_ret;exact⟨by rw[a.out];rfl,l⟩
 cases ag:au (f % 2=0)
 ·have a:Hid (bf (1,0,0,1,e,f)=Q):=R (by simp only[bf,cE,ag,dG,dJ])
  clear b c hf g;go_in
  go_wp2_with fail
  refine(b3 e (-1000000) 1000000 _).mono ?_;rintro r s ⟨rfl,rfl⟩;rw[i.out]
  go_wp2_with fail
  refine(b3 f (-1000000) 1000000 _).mono ?_;rintro r y ⟨rfl,rfl⟩;rw[k.out];go_wp2;go_ret;exact⟨by rw[a.out];rfl,l⟩
 have a:Hid (bf (1,0,0,1,e,f)=S):=R (by simp only[bf,cE,c,g,ab,ag];rfl);clear b c hf g;go_in
 go_wp2_with fail
 refine(b3 e (-1000000) 1000000 _).mono ?_;rintro r s ⟨rfl,rfl⟩;rw[i.out]
 go_wp2_with fail
 refine(b3 f (-1000000) 1000000 _).mono ?_;rintro r y ⟨rfl,rfl⟩;rw[k.out];go_wp2;go_ret;exact⟨by rw[a.out];rfl,l⟩
theorem BV(e f:Int)(w:ac):bB aj 38 #[b2 ((-1),0,0,(-1),e,f)] w fun r Z=>r= .returned (aa (bf ((-1),0,0,(-1),e,f)))/\Below w.heap.size w Z:=by
 have l:=aV w (Y #[B o (-1), B o 0, B o 0, B o (-1), B o e, B o f] 64);have z:=g8 e;have A:=g8 f;cases b:(au (-1000000<=e) && au (e<=1000000))
 ·have i:=R b
  have c:cJ e=Q:=b;have a:Hid (bf ((-1),0,0,(-1),e,f)=Q):=R (by simp only[bf,cE,c,dG,dJ]);clear b c;go_in
  go_wp2_with fail
  refine(b3 e (-1000000) 1000000 _).mono ?_;rintro r s ⟨rfl,rfl⟩;rw[i.out];go_wp2;go_ret;exact⟨by rw[a.out];rfl,l⟩
 have i:=R b;have c:cJ e=S:=b;cases hf:(au (-1000000<=f) && au (f<=1000000))
 ·have k:=R hf
  have g:cJ f=Q:=hf;have a:Hid (bf ((-1),0,0,(-1),e,f)=Q):=R (by simp only[bf,cE,g,dG,dJ]);clear b c hf g;go_in
  go_wp2_with fail
  refine(b3 e (-1000000) 1000000 _).mono ?_;rintro r s ⟨rfl,rfl⟩;rw[i.out]
  go_wp2_with fail
  refine(b3 f (-1000000) 1000000 _).mono ?_;rintro r y ⟨rfl,rfl⟩;rw[k.out];go_wp2;go_ret;exact⟨by rw[a.out];rfl,l⟩
 have k:=R hf;have g:cJ f=S:=hf;cases ab:au (e % 2=0)
 ·have a:Hid (bf ((-1),0,0,(-1),e,f)=Q):=R (by simp only[bf,cE,ab,dG,dJ])
  clear b c hf g;go_in
  go_wp2_with fail
  refine(b3 e (-1000000) 1000000 _).mono ?_;rintro r s ⟨rfl,rfl⟩;rw[i.out]
  go_wp2_with fail
  refine(b3 f (-1000000) 1000000 _).mono ?_;rintro r y ⟨rfl,rfl⟩;rw[k.out];go_wp2;go_ret;exact⟨by rw[a.out];rfl,l⟩
 cases ag:au (f % 2=0)
 ·have a:Hid (bf ((-1),0,0,(-1),e,f)=Q):=R (by simp only[bf,cE,ag,dG,dJ])
  clear b c hf g;go_in
  go_wp2_with fail
  refine(b3 e (-1000000) 1000000 _).mono ?_;rintro r s ⟨rfl,rfl⟩;rw[i.out]
  go_wp2_with fail
  refine(b3 f (-1000000) 1000000 _).mono ?_;rintro r y ⟨rfl,rfl⟩;rw[k.out];go_wp2;go_ret;exact⟨by rw[a.out];rfl,l⟩
 have a:Hid (bf ((-1),0,0,(-1),e,f)=S):=R (by simp only[bf,cE,c,g,ab,ag];rfl);clear b c hf g;go_in
 go_wp2_with fail
 refine(b3 e (-1000000) 1000000 _).mono ?_;rintro r s ⟨rfl,rfl⟩;rw[i.out]
 go_wp2_with fail
 refine(b3 f (-1000000) 1000000 _).mono ?_;rintro r y ⟨rfl,rfl⟩;rw[k.out];go_wp2;go_ret;exact⟨by rw[a.out];rfl,l⟩
theorem BW(e f:Int)(w:ac):bB aj 38 #[b2 (0,1,(-1),0,e,f)] w fun r Z=>r= .returned (aa (bf (0,1,(-1),0,e,f)))/\Below w.heap.size w Z:=by
 have l:=aV w (Y #[B o 0, B o 1, B o (-1), B o 0, B o e, B o f] 64);have z:=g8 e;have A:=g8 f;cases b:(au (-1000000<=e) && au (e<=1000000))
 ·have i:=R b
  have c:cJ e=Q:=b;have a:Hid (bf (0,1,(-1),0,e,f)=Q):=R (by simp only[bf,cE,c,dG,dJ]);clear b c;go_in
  go_wp2_with fail
  refine(b3 e (-1000000) 1000000 _).mono ?_;rintro r s ⟨rfl,rfl⟩;rw[i.out];go_wp2;go_ret;exact⟨by rw[a.out];rfl,l⟩
 have i:=R b;have c:cJ e=S:=b;cases hf:(au (-1000000<=f) && au (f<=1000000))
 ·have k:=R hf
  have g:cJ f=Q:=hf;have a:Hid (bf (0,1,(-1),0,e,f)=Q):=R (by simp only[bf,cE,g,dG,dJ]);clear b c hf g;go_in
  go_wp2_with fail
  refine(b3 e (-1000000) 1000000 _).mono ?_;rintro r s ⟨rfl,rfl⟩;rw[i.out]
  go_wp2_with fail
  refine(b3 f (-1000000) 1000000 _).mono ?_;rintro r y ⟨rfl,rfl⟩;rw[k.out];go_wp2;go_ret;exact⟨by rw[a.out];rfl,l⟩
 have k:=R hf;have g:cJ f=S:=hf;cases ab:au (e % 2=0)
 ·have a:Hid (bf (0,1,(-1),0,e,f)=Q):=R (by simp only[bf,cE,ab,dG,dJ])
  clear b c hf g;go_in
  go_wp2_with fail
  refine(b3 e (-1000000) 1000000 _).mono ?_;rintro r s ⟨rfl,rfl⟩;rw[i.out]
  go_wp2_with fail
  refine(b3 f (-1000000) 1000000 _).mono ?_;rintro r y ⟨rfl,rfl⟩;rw[k.out];go_wp2;go_ret;exact⟨by rw[a.out];rfl,l⟩
 cases ag:au (f % 2=0)
 ·have a:Hid (bf (0,1,(-1),0,e,f)=Q):=R (by simp only[bf,cE,ag,dG,dJ])
  clear b c hf g;go_in
  go_wp2_with fail
  refine(b3 e (-1000000) 1000000 _).mono ?_;rintro r s ⟨rfl,rfl⟩;rw[i.out]
  go_wp2_with fail
  refine(b3 f (-1000000) 1000000 _).mono ?_;rintro r y ⟨rfl,rfl⟩;rw[k.out];go_wp2;go_ret;exact⟨by rw[a.out];rfl,l⟩
 have a:Hid (bf (0,1,(-1),0,e,f)=S):=R (by simp only[bf,cE,c,g,ab,ag];rfl);clear b c hf g;go_in
 go_wp2_with fail
 refine(b3 e (-1000000) 1000000 _).mono ?_;rintro r s ⟨rfl,rfl⟩;rw[i.out]
 go_wp2_with fail
 refine(b3 f (-1000000) 1000000 _).mono ?_;rintro r y ⟨rfl,rfl⟩;rw[k.out];go_wp2;go_ret;exact⟨by rw[a.out];rfl,l⟩
theorem BX(e f:Int)(w:ac):bB aj 38 #[b2 (0,(-1),1,0,e,f)] w fun r Z=>r= .returned (aa (bf (0,(-1),1,0,e,f)))/\Below w.heap.size w Z:=by
 have l:=aV w (Y #[B o 0, B o (-1), B o 1, B o 0, B o e, B o f] 64);have z:=g8 e;have A:=g8 f;cases b:(au (-1000000<=e) && au (e<=1000000))
 ·have i:=R b
  have c:cJ e=Q:=b;have a:Hid (bf (0,(-1),1,0,e,f)=Q):=R (by simp only[bf,cE,c,dG,dJ]);clear b c;go_in
  go_wp2_with fail
  refine(b3 e (-1000000) 1000000 _).mono ?_;rintro r s ⟨rfl,rfl⟩;rw[i.out];go_wp2;go_ret;exact⟨by rw[a.out];rfl,l⟩
 have i:=R b;have c:cJ e=S:=b;cases hf:(au (-1000000<=f) && au (f<=1000000))
 ·have k:=R hf
  have g:cJ f=Q:=hf;have a:Hid (bf (0,(-1),1,0,e,f)=Q):=R (by simp only[bf,cE,g,dG,dJ]);clear b c hf g;go_in
  go_wp2_with fail
  refine(b3 e (-1000000) 1000000 _).mono ?_;rintro r s ⟨rfl,rfl⟩;rw[i.out]
  go_wp2_with fail
  refine(b3 f (-1000000) 1000000 _).mono ?_;rintro r y ⟨rfl,rfl⟩;rw[k.out];go_wp2;go_ret;exact⟨by rw[a.out];rfl,l⟩
 have k:=R hf;have g:cJ f=S:=hf;cases ab:au (e % 2=0)
 ·have a:Hid (bf (0,(-1),1,0,e,f)=Q):=R (by simp only[bf,cE,ab,dG,dJ])
  clear b c hf g;go_in
  go_wp2_with fail
  refine(b3 e (-1000000) 1000000 _).mono ?_;rintro r s ⟨rfl,rfl⟩;rw[i.out]
  go_wp2_with fail
  refine(b3 f (-1000000) 1000000 _).mono ?_;rintro r y ⟨rfl,rfl⟩;rw[k.out];go_wp2;go_ret;exact⟨by rw[a.out];rfl,l⟩
 cases ag:au (f % 2=0)
 ·have a:Hid (bf (0,(-1),1,0,e,f)=Q):=R (by simp only[bf,cE,ag,dG,dJ])
  clear b c hf g;go_in
  go_wp2_with fail
  refine(b3 e (-1000000) 1000000 _).mono ?_;rintro r s ⟨rfl,rfl⟩;rw[i.out]
  go_wp2_with fail
  refine(b3 f (-1000000) 1000000 _).mono ?_;rintro r y ⟨rfl,rfl⟩;rw[k.out];go_wp2;go_ret;exact⟨by rw[a.out];rfl,l⟩
 have a:Hid (bf (0,(-1),1,0,e,f)=S):=R (by simp only[bf,cE,c,g,ab,ag];rfl);clear b c hf g;go_in
 go_wp2_with fail
 refine(b3 e (-1000000) 1000000 _).mono ?_;rintro r s ⟨rfl,rfl⟩;rw[i.out]
 go_wp2_with fail
 refine(b3 f (-1000000) 1000000 _).mono ?_;rintro r y ⟨rfl,rfl⟩;rw[k.out];go_wp2;go_ret;exact⟨by rw[a.out];rfl,l⟩
end
section
open Go.RowKit Go.Maps
theorem BR(a b c d e f:Int)(w:ac)(hn:dh a b c d=Q):bB aj 38 #[b2 (a,b,c,d,e,f)] w fun r Z=>r= .returned (aa Q)/\Below w.heap.size w Z:=by
 have g:=R hn;clear hn;have i:=aV w (Y #[B o a, B o b, B o c, B o d, B o e, B o f] 64);by_cases A:a=1
 ·subst A
  by_cases s:b=0
  ·subst s
   by_cases l:c=0
   ·subst l
    by_cases k:d=1
    ·subst k
     exact absurd g.out (by simp[dh,ew])
    by_cases z:d= -1
    ·subst z
     exact absurd g.out (by simp[dh,ew])
    clear g;go_in;go_wp2;go_ret;exact⟨rfl,i⟩
   clear g;go_in;go_wp2;go_ret;exact⟨rfl,i⟩
  clear g;go_in;go_wp2;go_ret;exact⟨rfl,i⟩
 by_cases E:a= -1
 ·subst E
  by_cases s:b=0
  ·subst s
   by_cases l:c=0
   ·subst l
    by_cases k:d=1
    ·subst k
     exact absurd g.out (by simp[dh,ew])
    by_cases z:d= -1
    ·subst z
     exact absurd g.out (by simp[dh,ew])
    clear g;go_in;go_wp2;go_ret;exact⟨rfl,i⟩
   clear g;go_in;go_wp2;go_ret;exact⟨rfl,i⟩
  clear g;go_in;go_wp2;go_ret;exact⟨rfl,i⟩
 by_cases G:a=0
 ·subst G
  by_cases s:b=1
  ·subst s
   by_cases l:c=1
   ·subst l
    by_cases k:d=0
    ·subst k
     exact absurd g.out (by simp[dh,ew])
    clear g;go_in;go_wp2;go_ret;exact⟨rfl,i⟩
   by_cases y:c= -1
   ·subst y
    by_cases k:d=0
    ·subst k
     exact absurd g.out (by simp[dh,ew])
    clear g;go_in;go_wp2;go_ret;exact⟨rfl,i⟩
   clear g;go_in;go_wp2;go_ret;exact⟨rfl,i⟩
  by_cases I:b= -1
  ·subst I
   by_cases l:c=1
   ·subst l
    by_cases k:d=0
    ·subst k
     exact absurd g.out (by simp[dh,ew])
    clear g;go_in;go_wp2;go_ret;exact⟨rfl,i⟩
   by_cases y:c= -1
   ·subst y
    by_cases k:d=0
    ·subst k
     exact absurd g.out (by simp[dh,ew])
    clear g;go_in;go_wp2;go_ret;exact⟨rfl,i⟩
   clear g;go_in;go_wp2;go_ret;exact⟨rfl,i⟩
  clear g;go_in;go_wp2;go_ret;exact⟨rfl,i⟩
 clear g;go_in;go_wp2;go_ret;exact⟨rfl,i⟩
theorem vm(m:aR)(w:ac):bB aj 38 #[b2 m] w fun r Z=>r= .returned (aa (bf m))/\Below w.heap.size w Z:=by
 obtain⟨a,b,c,d,e,f⟩:=m;cases hn:dh a b c d
 ·rw[show bf (a,b,c,d,e,f)=Q by simp only[bf,hn,dG]]
  exact BR a b c d e f w hn
 rcases vY hn with ⟨rfl,rfl,rfl,rfl⟩ | ⟨rfl,rfl,rfl,rfl⟩ | ⟨rfl,rfl,rfl,rfl⟩ | ⟨rfl,rfl,rfl,rfl⟩ | ⟨rfl,rfl,rfl,rfl⟩ | ⟨rfl,rfl,rfl,rfl⟩ | ⟨rfl,rfl,rfl,rfl⟩ | ⟨rfl,rfl,rfl,rfl⟩
 ·exact BU e f w
 ·exact BP e f w
 ·exact BQ e f w
 ·exact BV e f w
 ·exact BT e f w
 ·exact BX e f w
 ·exact BW e f w
 ·exact BS e f w
end
end Go.Proofs.YteaeipgfjmnecaaGreatDoor

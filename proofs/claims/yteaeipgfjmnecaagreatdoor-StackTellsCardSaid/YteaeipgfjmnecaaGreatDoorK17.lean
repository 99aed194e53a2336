/- Lemmas; each says its own conditions. -/
import Derived.Test.YteaeipgfjmnecaaGreatDoorK16
open Array renaming replicate_succ->jY,replicate_zero->jZ
open Bool renaming false->Q,true->S
open Classical renaming byContradiction->mr
open Decidable renaming decide->au
open Go renaming Value->ae,World->ac,heap_alloc_new->aQ,undef->U
open Go.Act renaming put->a6
open Go.Fence renaming wide->fR
open Go.IntKind renaming i64->b7
open Go.IntWalk renaming i64_in->ca
open Go.KeepsOthers renaming alloc->qd
open Go.IntKind renaming i64->o
open List renaming append_toArray->j2,cons_append->jq,getD_eq_getElem?_getD->cf,getElem?_cons_zero->cU,getElem?_eq_getElem->bb,getElem?_eq_some_iff->bM,getElem?_toArray->cP,length_cons->fJ,length_nil->j5,mem_map->j6,nil_append->j7,nodup_iff_pairwise_ne->oG,push_toArray->j9,setIfInBounds_toArray->bd,set_cons_succ->ba,set_cons_zero->bc,size_toArray->jt
open Nat renaming le_trans->ec,reduceAdd->ka,reduceSub->kb
open Go.Obj renaming cells->Y
open Option renaming none->F,some->D
open Option.some renaming inj->cn
open Go.Proofs.Tryz renaming prog->aj
open Go.Value renaming agg->aq,bool->aa,func->eO,int->B,pointer->ad,slice->O
namespace Go.Proofs.YteaeipgfjmnecaaGreatDoor
set_option linter.unusedSimpArgs false
set_option linter.unusedVariables false
set_option maxHeartbeats 12800000
section
set_option maxRecDepth 100000
open Go.RowKit Go.Maps
def hG(L:List ah)(aU:aO->Option Int)(t:ah)(af:Int):List Nat->Int
 | []=>0
 | k::r=>if (eH L (bE t k)).getD 0=af/\¬(aU (bk t k)).getD 0=0 then(aU (bk t k)).getD 0 else hG L aU t af r
theorem zs(L:List ah)(aU:aO->Option Int)(t:ah)(af:Int){k:Nat}(cE:k < 3):hG L aU t af ([0,1,2].drop k)=if (eH L (bE t k)).getD 0=af/\¬(aU (bk t k)).getD 0=0 then(aU (bk t k)).getD 0 else hG L aU t af ([0,1,2].drop (k+1)):=by
 rcases e7 cE with rfl | rfl | rfl <;> rfl
theorem zD(q:ho)(L:List ah)(ms:List aR)(h:List Int)(aU:aO->Option Int)(i:Nat)(t:ah)(af:Int)(w:ac)(aZ:fe q L ms h aU w)(a0:Steps w)(ht:L[i]? =D t)(bL:eD t):
  Calls aj 95 #[ad (D ⟨q.ar,0,F⟩), aq #[B o (i:Int), B o af]] w fun r Z=>r= .returned (B o (hG L aU t af [0,1,2]))/\Below w.heap.size w Z:=by
 have bg:=aQ w (Y #[B o (i:Int), B o af] 106);have G:=aV w (Y #[B o (i:Int), B o af] 106);obtain⟨a1,c1⟩:=d7 bg;have y:=aZ.below G;have N:=y.cd.a1;have dO:=y.cj.bC;have eJ:=y.cj.b8;have fw:=y.cj.dk;obtain⟨I,J,M⟩:=y.vU ht;have a3:=(bM.1 ht).1;have dg:(0:Int)<=(i:Int):=by omega
 have b3:(i:Int) < (L.length:Int):=by omega
 obtain⟨n,hn⟩:=ai (L.length);rw[<-hn] at b3 dO;have hts:=bL.sm;have eW:=fun(a8:ac) (al:Below (w.alloc (Y #[B o (i:Int), B o af] 106)).heap.size (w.alloc (Y #[B o (i:Int), B o af] 106)) a8)=>n4 t.1 t.2.1 t.2.2 a8 (a0.below (G.trans (al.mono G.size))) (by have:=hts.1;omega) (by have:=hts.1;omega) (by have:=hts.2.1;omega) (by have:=hts.2.1;omega) hts.2.2.1 hts.2.2.2;obtain⟨aD,z⟩:=ai (hG L aU t af [0,1,2]);rw[<-z];have ag:Hid (aD=hG L aU t af ([0,1,2].drop 0)):=R z;obtain⟨bq,cv,P,cN⟩:=df eW y G bL;clear eW aZ y G bg z ht a0 bL hts a3 hn;go_in
 go_wp2_with fail
 generalize w.alloc (Y #[B o (i:Int), B o af] 106)=a8 at a1 c1 N dO eJ fw I J M bq cv P |-;refine bW (fin:= ?z1) [ad (D ⟨q.ar,0,F⟩), ad (D ⟨q.ar,0,F⟩), ad (D ⟨q.ar,0,F⟩), ad (D ⟨q.aA,0,F⟩), ad (D ⟨q.aA,0,F⟩), ad (D ⟨q.aA,4,F⟩), O (D ⟨q.gt,0,F⟩) n q.dx, ad (D ⟨w.heap.size,0,F⟩), B o (i:Int), ad (D ⟨q.gt,i*3,F⟩),bK t,kS (ci t.1 t.2.1 t.2.2 0) (ci t.1 t.2.1 t.2.2 1) (ci t.1 t.2.1 t.2.2 2), B o (0)] ?hf bp (by kernel_rfl) rfl fun c hst=> ?_;case hf=>simp only[aT,a6,bd,ba,bc];exact rfl
 have g:=R hst;have b:=hst;obtain⟨a1,c1,N,dO,eJ,fw,I,J,M⟩:=jV b a1 c1 N dO eJ fw I J M;constructor
 ·iterate 13 refine⟨?_,fun K a=> ?_⟩
  ·trivial
  all_goals try (go_simp;exact a _ g.out;done)
  go_simp;exact aw (bq.out c b) fun wc aG=>a _ (ax b aG)
 have an:=R b;obtain⟨cl,rfl⟩:=ai c;clear b bq
 go_wp2_with fail
 go_loopw [19] (fun v wr=>∃k:Nat,k<=3/\v= B o k/\Hid (aD=hG L aU t af ([0,1,2].drop k))/\Hid (Below cl.heap.size cl wr)) (fun v _=>3-(intOf v).toNat)
 case atStart=>exact⟨0,by omega,rfl,ag,R aX⟩
 clear ag;obtain⟨k,cE,rfl,ag,bZ⟩:=hrel;by_cases a4:k < 3
 ·have du:(k:Int) < 3:=by omega
  have dt:(0:Int)<=(k:Int):=by omega
  have di:∀w,(Instr.index 145 (kS (ci t.1 t.2.1 t.2.2 0) (ci t.1 t.2.1 t.2.2 1) (ci t.1 t.2.1 t.2.2 2)) (B o k)).run aj w= .ok (bS (bk t k)) w:=fun w=>pb t k a4 w;have hts:=cN.out.sm;have b5:=hts.iI a4;have cb:=hts.next a4;have bQ:=fun(dq:ac)=>oi t.1 t.2.1 t.2.2 k dq a4 (by have:=hts.1;omega) (by have:=hts.1;omega) (by have:=hts.2.1;omega) (by have:=hts.2.1;omega) hts.2.2.1 hts.2.2.2;have hst:=zs L aU t af a4;obtain⟨E,cx⟩:=ai (bk t k);obtain⟨bI,bT⟩:=ai (bE t k);rw[show dI t.1 t.2.1 t.2.2 k=bI from bT.symm] at bQ;rw[<-bT] at cb hst;rw[<-cx] at di b5 hst;obtain⟨bo,rfl⟩:=ai wr;have am:=bZ.out;replace a1:=V a1 am;replace c1:=V c1 am;replace N:=V N am;replace dO:=V dO am;replace eJ:=V eJ am;replace fw:=V fw am
  replace I:=V I am;replace J:=V J am;replace M:=V M am;obtain⟨cM,A,cV,cY⟩:=df bQ hst b5 cb;clear bQ hst b5 cb cx bT hts am
  go_wp2_with fail
  have e8:=aQ bo (Y #[B o E.1, B o E.2.1, B o E.2.2.1, B o E.2.2.2] 42);have T:=aV bo (Y #[B o E.1, B o E.2.1, B o E.2.2.1, B o E.2.2.2] 42);obtain⟨aS,ap,ak,aW⟩:=dm e8;have cB:=ax bZ.out T;replace a1:=V a1 T;replace c1:=V c1 T;replace N:=V N T;replace dO:=V dO T;replace eJ:=V eJ T;replace fw:=V fw T;replace I:=V I T;replace J:=V J T;replace M:=V M T;obtain⟨bn,cC⟩:=ai (bo.heap.size);rw[<-cC] at aS ap ak aW |-;have bf:=R cB;clear e8 T cB cC;generalize bo.alloc (Y #[B o E.1, B o E.2.1, B o E.2.2.1, B o E.2.2.2] 42)=w8 at aS ap ak aW a1 c1 N dO eJ fw I J M bf |-;have ce:=cv.out.below (an.out.trans (bf.out.mono an.out.size));have b9:=fun(W':ac) (al:Below w8.heap.size w8 W')=>(ce.below al).look cY.out
  have b6:∀W':ac,Below w8.heap.size w8 W'->(Instr.lookup 71 (.map (D q.bg)) (bS E) Q).run aj W'= .ok (B o ((aU E).getD 0)) W':=fun W' al=>(ce.below al).cj.d9.gZ cV.out;obtain⟨a2,cz⟩:=ai ((eH L bI).getD 0);obtain⟨KD,cy⟩:=ai ((aU E).getD 0);have hst:=A.out;rw[<-cz] at b9 hst;rw[<-cy] at b6 hst;obtain⟨b1,cA⟩:=ai (au (a2=af));obtain⟨aC,s⟩:=ai (!au (KD=0));obtain⟨cX,cu,bh,bG,A⟩:=dY b9 b6 cA s hst;clear b9 b6 cz cy cA s ce hst;obtain⟨c4,br⟩:∃l:ae,Hid (l=(bif b1 then ad (D ⟨q.ar,0,F⟩) else U)):=⟨_,R rfl⟩;obtain⟨c5,bs⟩:∃l:ae,Hid (l=(bif b1 then ad (D ⟨q.ar,0,F⟩) else U)):=⟨_,R rfl⟩;obtain⟨c6,bt⟩:∃l:ae,Hid (l=(bif b1 then ad (D ⟨q.ar,0,F⟩) else U)):=⟨_,R rfl⟩
  obtain⟨c7,bu⟩:∃l:ae,Hid (l=(bif b1 then ad (D ⟨q.aA,0,F⟩) else U)):=⟨_,R rfl⟩;obtain⟨c8,bv⟩:∃l:ae,Hid (l=(bif b1 then ad (D ⟨q.aA,0,F⟩) else U)):=⟨_,R rfl⟩;obtain⟨c9,bw⟩:∃l:ae,Hid (l=(bif b1 then ad (D ⟨q.aA,6,F⟩) else U)):=⟨_,R rfl⟩;obtain⟨da,bx⟩:∃l:ae,Hid (l=(bif b1 then .map (D q.bg) else U)):=⟨_,R rfl⟩;obtain⟨db,bA⟩:∃l:ae,Hid (l=(bif b1 then bS E else U)):=⟨_,R rfl⟩;obtain⟨dc,bB⟩:∃l:ae,Hid (l=(bif b1 then B o KD else U)):=⟨_,R rfl⟩;obtain⟨dd,bD⟩:∃l:ae,Hid (l=(bif b1 then aa aC else U)):=⟨_,R rfl⟩;obtain⟨de,bF⟩:∃l:ae,Hid (l= aa (b1 && aC)):=⟨_,R rfl⟩
  refine bW (fin:= ?z3) [ad (D ⟨q.ar,0,F⟩), ad (D ⟨q.ar,0,F⟩), ad (D ⟨q.ar,0,F⟩), ad (D ⟨q.aA,0,F⟩), ad (D ⟨q.aA,0,F⟩), ad (D ⟨q.aA,5,F⟩), .map (D q.bz), ad (D ⟨q.ar,0,F⟩), ad (D ⟨q.ar,0,F⟩), ad (D ⟨q.ar,0,F⟩), ad (D ⟨q.aA,0,F⟩), ad (D ⟨q.aA,0,F⟩), ad (D ⟨q.aA,4,F⟩), O (D ⟨q.gt,0,F⟩) n q.dx, ad (D ⟨w.heap.size,0,F⟩), B o (i:Int), ad (D ⟨q.gt,i*3,F⟩),bK t, B o (k:Int),bK bI, B o a2, ad (D ⟨w.heap.size,1,F⟩), B o af, aa b1, aa b1,c4,c5,c6,c7,c8,c9,da,db,dc,dd,de] ?hf bp (by kernel_rfl) rfl fun c hst=> ?_;case hf=>simp only[aT,a6,bd,ba,bc];exact rfl
  have g:=R hst;have b:=hst;obtain⟨a1,c1,N,dO,eJ,fw,I,J,M,aS,ap,ak,aW⟩:=ow b a1 c1 N dO eJ fw I J M aS ap ak aW;constructor
  ·iterate 36 refine⟨?_,fun K a=> ?_⟩
   ·trivial
   ·obtain rfl:=bF.out
    obtain rfl:=bD.out;cases b1 <;> cases aC <;> (go_simp;exact a _ g.out)
   ·have dC:(KD !=0)=aC:=by rw[bG.out];rfl
    obtain rfl:=bD.out;obtain rfl:=bB.out;cases b1 <;> (go_simp;exact a _ g.out)
   ·have cF:=cu.out c b
    obtain rfl:=bB.out;obtain rfl:=bx.out;obtain rfl:=bA.out;cases b1 <;> (go_simp;exact a _ g.out)
   ·obtain rfl:=bA.out
    cases b1 <;> (go_simp;exact a _ g.out)
   ·obtain rfl:=bx.out
    obtain rfl:=bw.out;cases b1 <;> (go_simp;exact a _ g.out)
   ·obtain rfl:=bw.out
    obtain rfl:=bv.out;cases b1 <;> (go_simp;exact a _ g.out)
   ·obtain rfl:=bv.out
    obtain rfl:=bu.out;cases b1 <;> (go_simp;exact a _ g.out)
   ·obtain rfl:=bu.out
    obtain rfl:=bt.out;cases b1 <;> (go_simp;exact a _ g.out)
   ·obtain rfl:=bt.out
    obtain rfl:=bs.out;cases b1 <;> (go_simp;exact a _ g.out)
   ·obtain rfl:=bs.out
    obtain rfl:=br.out;cases b1 <;> (go_simp;exact a _ g.out)
   ·obtain rfl:=br.out
    cases b1 <;> (go_simp;exact a _ g.out)
   ·cases b1 <;> (go_simp;exact a _ g.out)
   ·have dA:au (a2=af)=b1:=bh.out.symm
    have dB:(a2==af)=b1:=by rw[bh.out];rfl
    (go_simp;exact a _ g.out)
   iterate 2 (go_simp;exact a _ g.out)
   ·have cF:=cX.out c b
    (go_simp;exact a _ g.out)
   ·go_simp;exact aw (cM.out _) fun wc aG=>a _ (ax b aG)
   iterate 19 (go_simp;exact a _ g.out)
  obtain rfl:=bF.out;clear br bs bt bu bv bw bx bA bB bD bF;generalize cw:(b1 && aC)=B1;obtain⟨cr,cR⟩:=aY cw (ax bf.out b);clear cw;cases B1
  ·have cI:aD=hG L aU t af ([0,1,2].drop (k+1)):=by
    rw[ag.out,A.out,if_neg];rintro⟨bl,bm⟩;have:=cr.out;rw[bh.out,bG.out,decide_eq_true bl,decide_eq_false bm] at this;cases this
   have c0:=R cI;have dv:b7.wrap ((k:Int)+1)=((k+1:Nat):Int):=by rw[ca _ (by omega)];omega
   clear cI b;go_wp2;go_roundw
   case rel=>exact⟨k+1,by omega,by first | rfl | go_num,c0,cR⟩
   case measure=>simp[intOf];omega
  have aK:=cr.out;rw[Bool.and_eq_true] at aK;have bl:a2=af:=of_decide_eq_true (by rw[<-bh.out];exact aK.1);have bm:¬KD=0:=by have ab:=aK.2;rw[bG.out] at ab;simpa using ab
  have a5:aD=KD:=by rw[ag.out,A.out,if_pos ⟨bl,bm⟩]
  obtain⟨bH,cT⟩:=aY a5 b;clear a5 aK bl bm b
  go_wp2_with fail
  refine dR (fin:= ?z4) [ad (D ⟨q.ar,0,F⟩), ad (D ⟨q.ar,0,F⟩), ad (D ⟨q.ar,0,F⟩), ad (D ⟨q.aA,0,F⟩), ad (D ⟨q.aA,0,F⟩), ad (D ⟨q.aA,6,F⟩), .map (D q.bg),bS E, B o KD, B o KD] (fun c=>c.cell? ⟨w.heap.size,0,F⟩=D (B o (i:Int))/\c.cell? ⟨w.heap.size,1,F⟩=D (B o af)/\c.cell? ⟨q.ar,0,F⟩=D (ad (D ⟨q.aA,0,F⟩))/\c.cell? ⟨q.aA,4,F⟩=D (O (D ⟨q.gt,0,F⟩) n q.dx)/\c.cell? ⟨q.aA,5,F⟩=D (.map (D q.bz))/\c.cell? ⟨q.aA,6,F⟩=D (.map (D q.bg))/\c.cell? ⟨q.gt,i*3,F⟩=D (B o t.1)/\c.cell? ⟨q.gt,i*3+1,F⟩=D (B o t.2.1)/\c.cell? ⟨q.gt,i*3+2,F⟩=D (B o t.2.2)/\c.cell? ⟨bn,0,F⟩=D (B o E.1)/\c.cell? ⟨bn,1,F⟩=D (B o E.2.1)/\c.cell? ⟨bn,2,F⟩=D (B o E.2.2.1)/\c.cell? ⟨bn,3,F⟩=D (B o E.2.2.2)/\Below w8.heap.size w8 c) ?hf bp (by kernel_rfl) rfl ⟨a1,c1,N,dO,eJ,fw,I,J,M,aS,ap,ak,aW,cT.out.drew⟩ fun c hst=> ?_
  case hf=>simp only[aT,a6,bd,ba,bc];exact rfl
  have A:=R hst;obtain⟨a1,c1,N,dO,eJ,fw,I,J,M,aS,ap,ak,aW,b⟩:=hst;constructor
  ·iterate 10 refine⟨?_,fun K a=> ?_⟩
   ·trivial
   all_goals try (go_simp;exact a _ A.out;done)
   have cF:=cu.out c b;go_simp;exact a _ A.out
  have aB:=R (P.out.trans ((an.out.trans ((ax bf.out b).mono an.out.size)).mono P.out.size));clear b;go_wp2;go_ret;exact⟨ez bH.out.symm,aB.out⟩
 obtain rfl:k=3:=by omega
 have a5:aD=0:=ag.out;obtain⟨bH,aB⟩:=aY a5 (P.out.trans ((an.out.trans (bZ.out.mono an.out.size)).mono P.out.size));clear a5;go_wp2;go_ret;exact⟨ez bH.out.symm,aB.out⟩
def l5(L:List ah)(ms:List aR)(h:List Int)(aU:aO->Option Int)(t:ah)(m:aR)(i:Nat)(af:Int):Bool:=
 fA L ms i af && ((au (be h (i:Int) < be h af) !=kI m) !=au (hG L aU t af [0,1,2]=2))
theorem AF(q:ho)(L:List ah)(ms:List aR)(h:List Int)(aU:aO->Option Int)(i:Nat)(t:ah)(m:aR)(af:Int)(w:ac)(aZ:fe q L ms h aU w)(a0:Steps w)(ht:L[i]? =D t)(bL:eD t)(cG:ms[i]? =D m)(cH:dh m.1 m.2.1 m.2.2.1 m.2.2.2.1=S)(cJ:af < (L.length:Int)):
  Calls aj 49 #[ad (D ⟨q.ar,0,F⟩), aq #[B o (i:Int), B o af]] w fun r Z=>r= .returned (aa (l5 L ms h aU t m i af))/\Below w.heap.size w Z:=by
 have bg:=aQ w (Y #[B o (i:Int), B o af] 106);have G:=aV w (Y #[B o (i:Int), B o af] 106);obtain⟨a1,c1⟩:=d7 bg;have a3:=(bM.1 ht).1;have y:=aZ.below G;have bj:=fun(W:ac) (al:Below (w.alloc (Y #[B o (i:Int), B o af] 106)).heap.size (w.alloc (Y #[B o (i:Int), B o af] 106)) W)=>q7 q L ms h aU i af W (y.below al) a3 cJ;obtain⟨aD,z⟩:=ai (l5 L ms h aU t m i af);rw[<-z];unfold l5 at z;obtain⟨fd,aH⟩:=ai (fA L ms i af);rw[<-aH] at z;simp only[<-aH] at bj;obtain⟨a9,P⟩:=aY bj G
 cases fd with
 | false=>
  have cK:aD=Q:=by rw[z,Bool.false_and]
  have ag:=R cK;clear cK z bj bg G aZ y a0 aH;go_in
  go_wp2_with fail
  generalize w.alloc (Y #[B o (i:Int), B o af] 106)=a8 at a1 c1 a9 P |-
  go_wp2_with (go_at_call 93;refine aw (a9.out _ aX) fun dp s=> ?_;have aB:=R (ax P.out s);clear s)
  go_ret;exact⟨cW ag.out.symm,aB.out⟩
 | true=>
  have h0:0<=af:=by
   apply mr
   intro hn;unfold fA at aH;rw[decide_eq_false hn] at aH;cases aH
  obtain⟨j,rfl⟩:∃j:Nat,af=(j:Int):=⟨af.toNat,by omega⟩;have cD:j < L.length:=by omega
  rw[Bool.true_and] at z;have ay:=y.cd.c1;have az:=y.cd.bV;have ao:=y.i8 a3;have av:=y.i8 cD;obtain⟨aI,aJ,aL,aM,aN,aP⟩:=y.ul cG;have cZ:=fun W:ac=>Dj m cH W;have bP:=fun(W:ac) (al:Below (w.alloc (Y #[B o (i:Int), B o (j:Int)] 106)).heap.size (w.alloc (Y #[B o (i:Int), B o (j:Int)] 106)) W)=>zD q L ms h aU i t (j:Int) W (y.below al) (a0.below (G.trans (al.mono G.size))) ht bL;obtain⟨bJ,bU⟩:=ai (be h (i:Int));obtain⟨bO,bX⟩:=ai (be h (j:Int));obtain⟨fZ,cg⟩:=ai (kI m);obtain⟨bi,bR⟩:=ai (hG L aU t (j:Int) [0,1,2]);rw[<-bU,<-bX,<-cg,<-bR] at z;rw[<-bU] at ao;rw[<-bX] at av;simp only[<-cg] at cZ;simp only[<-bR] at bP;obtain⟨aE,bY⟩:=ai (au (bJ < bO));obtain⟨a7,b4⟩:=ai (au (bi=2))
  rw[<-bY,<-b4] at z;obtain⟨z1,ch⟩:=ai ((aE !=fZ));rw[<-ch] at z;obtain⟨co,ck⟩:=ai ((z1 !=a7));rw[<-ck] at z;obtain⟨c3,ag,cO,ct,c2,cL,cq⟩:=kp ck z bY b4 ch cZ bP;have dg:(0:Int)<=(i:Int):=by omega
  have dr:(0:Int)<=(j:Int):=by omega
  have b3:(i:Int) < (L.length:Int):=by omega
  have dj:(j:Int) < (L.length:Int):=by omega
  obtain⟨n,hn⟩:=ai (L.length);rw[<-hn] at b3 dj ay az;clear z bY b4 ch ck bj cZ bP bg G aZ y a0 aH bU bX cg bR a3 cD cJ h0 hn ht cG bL cH;go_in
  go_wp2_with fail
  generalize w.alloc (Y #[B o (i:Int), B o (j:Int)] 106)=a8 at a1 c1 ay az ao av aI aJ aL aM aN aP a9 cq P |-
  go_wp2_with (go_at_call 93;refine aw (a9.out _ aX) fun dp s=> ?_;have cQ:=R s;replace a1:=V a1 s;replace c1:=V c1 s;replace ay:=V ay s;replace az:=V az s;replace ao:=V ao s;replace av:=V av s;replace aI:=V aI s;replace aJ:=V aJ s;replace aL:=V aL s;replace aM:=V aM s;replace aN:=V aN s;replace aP:=V aP s;clear s)
  refine bW (fin:= ?z5) [ad (D ⟨q.ar,0,F⟩), ad (D ⟨q.ar,0,F⟩), ad (D ⟨q.ar,3,F⟩), O (D ⟨q.aF,0,F⟩) n n, ad (D ⟨w.heap.size,1,F⟩), B o (j:Int), ad (D ⟨q.aF,j,F⟩), B o bO, ad (D ⟨q.ar,0,F⟩), ad (D ⟨q.ar,0,F⟩), ad (D ⟨q.ar,3,F⟩), O (D ⟨q.aF,0,F⟩) n n, ad (D ⟨w.heap.size,0,F⟩), B o (i:Int), ad (D ⟨q.aF,i,F⟩), B o bJ, aa aE, aa aE] ?hf bp (by kernel_rfl) rfl fun c hst=> ?_;case hf=>simp only[aT,a6,bd,ba,bc];exact rfl
  have g:=R hst;have b:=hst;obtain⟨a1,c1,ay,az,ao,av,aI,aJ,aL,aM,aN,aP⟩:=lb b a1 c1 ay az ao av aI aJ aL aM aN aP;constructor
  ·iterate 18 refine⟨?_,fun K a=> ?_⟩
   ·trivial
   all_goals try (go_simp;exact a _ g.out;done)
   have dw:au (bJ < bO)=aE:=cO.out.symm;go_simp;exact a _ g.out
  have an:=R (ax cQ.out b);clear b
  go_wp2_with fail
  obtain⟨cl,rfl⟩:=ai c;refine bW (fin:= ?z7) [aa aE, ad (D ⟨q.ar,0,F⟩), ad (D ⟨q.ar,0,F⟩), ad (D ⟨q.ar,1,F⟩), O (D ⟨q.bN,0,F⟩) n q.cm, ad (D ⟨w.heap.size,0,F⟩), B o (i:Int), ad (D ⟨q.bN,i*6,F⟩),b2 m, aa fZ, aa z1, ad (D ⟨q.ar,0,F⟩), aq #[B o (i:Int), B o (j:Int)], B o bi, aa a7, aa co, aa co] ?hf bp (by kernel_rfl) rfl fun c b=> ?_;case hf=>simp only[aT,a6,bd,ba,bc];exact rfl
  have A:=R b;obtain⟨a1,c1,ay,az,ao,av,aI,aJ,aL,aM,aN,aP⟩:=lb b a1 c1 ay az ao av aI aJ aL aM aN aP;constructor
  ·iterate 17 refine⟨?_,fun K a=> ?_⟩
   ·trivial
   ·cases co <;> (go_simp;exact a _ A.out)
   ·have dn:=c3.out
    subst dn;cases z1 <;> cases a7 <;> (go_simp;exact a _ A.out)
   ·have dy:au (bi=2)=a7:=ct.out.symm
    have dz:(bi==2)=a7:=by rw[ct.out];rfl
    (go_simp;exact a _ A.out)
   ·go_simp;exact aw (cq.out c (ax an.out b)) fun wc aG=>a _ (ax b aG)
   iterate 2 (go_simp;exact a _ A.out)
   ·have dl:=c2.out
    subst dl;cases aE <;> cases fZ <;> (go_simp;exact a _ A.out)
   ·go_simp;exact aw (cL.out c) fun wc aG=>a _ (ax b aG)
   iterate 8 (go_simp;exact a _ A.out)
   ·cases aE <;> (go_simp;exact a _ A.out)
  have aB:=R (P.out.trans ((ax an.out b).mono P.out.size));clear b;go_wp2;go_ret;exact⟨cW ag.out.symm,aB.out⟩
end
section
set_option maxRecDepth 100000
open Go.RowKit Go.Maps
theorem sD{w:ac}{T E:TypeId}{z:ae}{aL bytes:Nat}(bi:Tryz.prog.underlying T=D (.slice E))(eE:(Tryz.prog.info? E).map (fun i=>(i.zero,i.size,i.bytes))=D (D z,aL,bytes))
  (eU:z.cells.size=aL) (hsz:0 < aL) (eG:bytes<=4096)
  {ops:Array Oper} {rest:List Oper} {af:Oper} {a:Act} {eg:Exit->Act->ac->Prop} (eK:af.guard=F) (s x:Operand)
  (cN:af.op= .call {callee:= .builtin .append,args:=#[s,x],argTypes:=#[T,T]})
  (bQ:Nat) (v:ae) (n:Nat) (dV cT:List ae) (cQ:a.eval s=v) (et:w.ownsRow bQ E aL v n dV) (ek:bQ<=w.heap.size)
  (dq:Addr) (eQ:a.eval x= O (D dq) 1 1) (ev:Rd w aL (D dq) 1 cT) (h1:∀u ∈ cT,u.oneCell'=S) (hn:n+1<=2147483648)
  (h:∀a8 Z,Z.ownsRow bQ E aL a8 (n+1) (dV++cT)->Below bQ w Z->fm w Z v a8->wpList aj ops eg rest (a.put af.dst a8) Z):
  wpList aj ops eg (af::rest) a w:=by
 obtain⟨eV,al,eR,eS,eT⟩:=info_parts eE;have e7:(n+1)*bytes<=2147483648*4096:=Nat.mul_le_mul hn eG;refine wpList_append_own_at _ eK s x T cN bQ E eV z aL bytes bi al eR eS eT eU hsz v n dV cQ et dq 1 1 cT eQ ev.1 ?_ h1 (by simp only[maxLen];omega) (by omega) ek ?_
 ·intro j u cy
  obtain⟨e0,fa,e,_,hc⟩:=ev.2 (by omega);cases e
  rw[fW];exact hc j u cy
 intro a8 Z ab ag _ bT;refine h a8 Z ab (aX.grown ag ek (fun k bv=>(et.lt k bv).1)) ⟨ag, ?_⟩;rcases bT with bT | bT
 ·exact .inl bT
 ·exact .inr ⟨_,bT,ce⟩
theorem xP(L:List ah)(ms:List aR)(cs:List bw){n i k:Nat}(al:i < n)(bv:k < 3):(d4 L ms cs (n*3))[i*3+k]? =D (c0 L ms cs i k):=by
 unfold d4;rw[List.getElem?_map,List.getElem?_range (by omega)];simp only[Option.map_some,qN];rw[show(i*3+k) / 3=i by omega,show(i*3+k) % 3=k by omega]
theorem uC{m:aR}{e:aO}(b:jy m.1 m.2.1 m.2.2.1 m.2.2.2.1 m.2.2.2.2.1 m.2.2.2.2.2)(y:lC e):kr.ok (fP m e):=by
 have cz:=ck b.ao b.a2 (show -40<=e.1 from y.b0.1) y.b0.2;have b9:=ck b.b1 b.aC (show -40<=e.2.1 from y.b1.1) y.b1.2;have dZ:=ck b.c1 b.c2 (show -40<=e.1 from y.b0.1) y.b0.2;have dO:=ck b.d1 b.d2 (show -40<=e.2.1 from y.b1.1) y.b1.2;have aZ:=ck b.ao b.a2 (show -40<=e.2.2.1 from y.aC.1) y.aC.2;have bm:=ck b.b1 b.aC (show -40<=e.2.2.2 from y.aM.1) y.aM.2;have fb:=ck b.c1 b.c2 (show -40<=e.2.2.1 from y.aC.1) y.aC.2;have fc:=ck b.d1 b.d2 (show -40<=e.2.2.2 from y.aM.1) y.aM.2;have fd:=And.intro b.ap b.ak;have ff:=And.intro b.f1 b.f2;show bj _/\bj _/\bj _/\bj _
 unfold fP eI bj
 split <;> (simp only;omega)
def kf(w:ac)(l:List bU)(q:Nat)(wr:ac):Prop:=∃(bh:Nat) (f:aO->Option ae),bh<=q/\gu wr w.heap.size w.heap.size bh f (c5 l q)
theorem kf.below{w wr Z:ac}{l:List bU}{q:Nat}(h:kf w l q wr)(bt:Below wr.heap.size wr Z):kf w l q Z:=by
 obtain⟨bh,f,h1,ab⟩:=h;exact⟨bh,f,h1,ab.below bt⟩
theorem AB(q:ho)(L:List ah)(ms:List aR)(h:List Int)(aU:aO->Option Int)(cs:List bw)(w:ac)(cO:fe q L ms h aU w)(cQ:Steps w)(hf:nT L ms h aU cs):
  Calls aj 48 #[ad (D ⟨q.ar,0,F⟩)] w fun r Z=>r= .returned (.map (D w.heap.size))/\kf w (d4 L ms cs (L.length*3)) (L.length*3) Z/\Below w.heap.size w Z:=by
 obtain⟨l,av⟩:=ai (d4 L ms cs (L.length*3));rw[<-av];have bD:=cO.cd.a1;have dO:=cO.cj.bC;have es:=hf.small;obtain⟨ex,dj,du,c4⟩:=df av cO cQ hf;have cK:=aV w (.map #[] 0);have aK:kf w l 0 (w.alloc (.map #[] 0)):=⟨0,_,ce,by rw[yE];exact gu.made w w.heap.size⟩;have db:=R aK;replace bD:=V bD cK;replace dO:=V dO cK;have cZ:=R cK;have eM:=@run_makeMap aj;clear av cO cQ hf cK aK;go_in
 go_wp2_with fail
 clear eM;generalize w.alloc (.map #[] 0)=dT at bD dO db cZ |-;go_loopw [20] (fun v wr=>∃i:Nat,i<=L.length/\v= B o i/\Hid (kf w l (i*3) wr)/\Hid (Below w.heap.size w wr)) (fun v _=>L.length-(intOf v).toNat)
 case atStart=>exact⟨0,by omega,rfl,by rw[Nat.zero_mul];exact db,cZ⟩
 clear db cZ;obtain⟨i,al,rfl,aK,bf⟩:=hrel;by_cases b4:i < L.length
 ·obtain⟨t,ht⟩:∃t,L[i]? =D t:=⟨_,bb b4⟩
  obtain⟨m,dP⟩:∃m,ms[i]? =D m:=⟨_,bb (by rw[c4.out.maps.len];exact b4)⟩;have dH:ms.getD i zeroV=m:=by rw[cf,dP];rfl
  have dN:=(c4.out.maps.may i b4).1;rw[dH] at dN;have b:=gA (hJ dN) (by omega);have eu:=dj.out.below bf.out;obtain⟨cC,cD,cE⟩:=eu.vU ht;have dJ:=c4.out.bL t (List.mem_of_getElem? ht);have hts:=dJ.sm;have e3:(i:Int) < (L.length:Int):=by omega
  have e2:(0:Int)<=(i:Int):=by omega
  have eW:=fun(dT:ac) (bt:Below wr.heap.size wr dT)=>n4 t.1 t.2.1 t.2.2 dT (du.out.below (bf.out.trans (bt.mono bf.out.size))) (by have:=hts.1;omega) (by have:=hts.1;omega) (by have:=hts.2.1;omega) (by have:=hts.2.1;omega) hts.2.2.1 hts.2.2.2;obtain⟨dW,dp,ea,ey,ew,ee⟩:=ft eW ht dJ dP dH b;obtain⟨dU,rfl⟩:=ai wr;have dD:=aV dU (Y #[B o t.1, B o t.2.1, B o t.2.2] 53);clear eW ht dJ hts dP dH dN b eu
  go_wp2_with (go_at_call 89;refine aw (dW.out _ dD) fun fg dA=> ?_)
  have ei:=aQ dU (Y #[B o t.1, B o t.2.1, B o t.2.2] 53);have dB:=ax dD dA;have ei:=aG ei dA (am ei);obtain⟨ed,d5,c9⟩:=cq (aK.out.below dB) (bf.out.trans (dB.mono bf.out.size)) ei;obtain⟨N,dF⟩:=ai (dU.heap.size);rw[<-dF] at c9 |-;have eZ:=R (show w.heap.size<=N by rw[dF];exact bf.out.size);clear cC cD cE dW dA dD ei dB aK bf dF
  go_wp2_with fail
  go_loopw [27] (fun v wr=>∃k:Nat,k<=3/\v= B o k/\Hid (kf w l (i*3+k) wr)/\Hid (Below w.heap.size w wr)/\Hid (wr.heap[N]? =D (Y #[B o t.1, B o t.2.1, B o t.2.2] 53 (0,0)))) (fun v _=>3-(intOf v).toNat)
  case atStart=>exact⟨0,by omega,rfl,ed,d5,c9⟩
  clear ed d5 c9;obtain⟨k,bv,rfl,aK,cL,dL⟩:=hrel;by_cases b5:k < 3
  ·have e5:(k:Int) < 3:=by omega
   have e4:(0:Int)<=(k:Int):=by omega
   have eL:∀w,(Instr.index 145 (kS (ci t.1 t.2.1 t.2.2 0) (ci t.1 t.2.1 t.2.2 1) (ci t.1 t.2.1 t.2.2 2)) (B o k)).run aj w= .ok (bS (bk t k)) w:=fun w=>pb t k b5 w;have hts:=ea.out.sm;have dK:=ea.out.iI b5;have dR:=hts.next b5;have dr:=fun(eX:ac)=>oi t.1 t.2.1 t.2.2 k eX b5 (by have:=hts.1;omega) (by have:=hts.1;omega) (by have:=hts.2.1;omega) (by have:=hts.2.1;omega) hts.2.2.1 hts.2.2.2;have aN:=fun h=>px (k:=k) dp.out h;have hns:=fun h=>og (k:=k) dp.out h;obtain⟨c,hc⟩:=ai (c0 L ms cs i k);have el:l[i*3+k]? =D c:=by rw[ex.out,hc];exact xP L ms cs b4 b5
   have dE:c.e=fP m (bk t k):=by rw[hc,n0 dp.out,ew.out]
   have eo:c.ay=i:=by rw[hc];rfl
   have em:c.an=match fj L i k with | some j=>(j:Int) | none=>-1:=by rw[hc];rfl
   have en:kr.ok c.e:=by rw[dE];exact uC ee.out dK
   have ep:=fun(W:ac) (bt:Below w.heap.size w W)=>zb q L ms h aU i m (bk t k) W (dj.out.below bt) ey.out b4 ee.out dK;rw[<-dE] at ep;obtain⟨E,ej⟩:=ai (bk t k);obtain⟨bq,dw⟩:=ai (bE t k);rw[show dI t.1 t.2.1 t.2.2 k=bq from dw.symm] at dr;rw[<-dw] at dR aN hns;rw[<-ej] at eL ep;have d7:Hid (c.an=if bq ∈ L then((L.idxOf bq:Nat):Int) else -1):=R (by
    rw[em];by_cases A:bq ∈ L
    ·rw[hns A,if_pos A]
    ·rw[aN A,if_neg A])
   obtain⟨d3,dX,ez,d6,d9,d8⟩:=ft dr ep dR el eo en;clear dr ep aN hns dK dR ej dw hts hc el dE eo em en;obtain⟨cV,rfl⟩:=ai wr
   go_wp2_with fail
   have e8:=aQ cV (Y #[B o E.1, B o E.2.1, B o E.2.2.1, B o E.2.2.2] 42);have cJ:=aV cV (Y #[B o E.1, B o E.2.1, B o E.2.2.1, B o E.2.2.2] 42);obtain⟨bH,ap,ak,M⟩:=dm e8;have cI:=cL.out.trans (cJ.mono cL.out.size);have cR:=aG dL.out cJ (am dL.out);have dc:=R (aK.out.below cJ);obtain⟨e1,eq⟩:=ai (cV.heap.size);rw[<-eq] at bH ap ak M |-;clear e8 cJ eq aK cL dL;generalize cV.alloc (Y #[B o E.1, B o E.2.1, B o E.2.2.1, B o E.2.2.2] 42)=w8 at bH ap ak M cI cR dc |-;obtain⟨cC,cD,cE⟩:=dl cR;have bg:=dj.out.below cI;have bD:=bg.cd.a1;have eJ:=bg.cj.b8;have cM:=fun(W':ac) (bt:Below w8.heap.size w8 W')=>(bg.below bt).cj.look ez.out;obtain⟨bI,dt⟩:=ai (au (bq ∈ L))
   rw[<-dt] at cM;obtain⟨aW,dx⟩:=ai ((eH L bq).getD 0);rw[<-dx] at cM;obtain⟨c3,eA,eb,cX,da⟩:=dY dt dx cM cI cR;clear dt dx cM bg cI cR;refine bW (fin:= ?z1) [ad (D ⟨q.ar,0,F⟩), ad (D ⟨q.ar,0,F⟩), ad (D ⟨q.ar,0,F⟩), ad (D ⟨q.aA,0,F⟩), ad (D ⟨q.aA,0,F⟩), ad (D ⟨q.aA,5,F⟩), .map (D q.bz),bK t, B o (k:Int),bK bq, .tuple #[B o aW, aa bI], .tuple #[B o aW, aa bI], B o aW, aa bI, B o aW, aa bI] ?hf bp (by kernel_rfl) rfl fun eh be=> ?_;case hf=>simp only[aT,a6,bd,ba,bc];exact rfl
   have ef:=R be;obtain⟨bD,eJ,cC,cD,cE,bH,ap,ak,M⟩:=jV be bD eJ cC cD cE bH ap ak M;constructor
   ·iterate 16 refine⟨?_,fun K dv=> ?_⟩
    ·trivial
    all_goals try (go_simp;exact dv _ ef.out;done)
    ·have e6:=eb.out eh be
     go_simp;exact dv _ ef.out
    go_simp;exact aw (d3.out _) fun wc eF=>dv _ (ax be eF)
   have dC:=cX.out.trans (be.mono cX.out.size);obtain⟨bF,cG,bG⟩:=cq dC (dc.out.below be) (aG da.out be (am da.out));obtain⟨eY,rfl⟩:=ai eh;have ep:=dX.out eY dC;have cF:=R ep;clear dC be ep cX dc da bD eJ cC cD cE d3 dX eb;obtain⟨af,cN⟩:=ai (c.an);have cH:=R cN;clear cN
   cases bI with
   | false=>
    have ct:(-1:Int)=af:=by rw[cH.out,d7.out,if_neg (of_decide_eq_false c3.out.symm)]
    have di:=R ct;clear ct;go_upto_region 12 with (go_at_call 92;refine aw cF.out fun a5 bY=> ?_)
    have cB:=aQ a5 (Y #[B o c.e.1, B o c.e.2.1, B o c.e.2.2.1, B o c.e.2.2.2] 42);have bZ:=aV a5 (Y #[B o c.e.1, B o c.e.2.1, B o c.e.2.2.1, B o c.e.2.2.2] 42);have aY:=ax bY bZ;obtain⟨bO,bn,aP⟩:=cq (cG.out.below aY) (aG bG.out aY (am bG.out)) (bF.out.trans (aY.mono bF.out.size));obtain⟨a1,c1,c2,bV⟩:=dm cB;obtain⟨eD,b3⟩:=ai (a5.heap.size);rw[<-b3] at a1 c1 c2 bV |-;clear cB bZ aY bY b3 cG bG bF cF bH ap ak M;generalize a5.alloc (Y #[B o c.e.1, B o c.e.2.1, B o c.e.2.2.1, B o c.e.2.2.2] 42)=w11 at a1 c1 c2 bV bO bn aP |-;have a0:=aV w11 (Y #[B o (i:Int), B o (-1)] 106);have aJ:=aQ w11 (Y #[B o (i:Int), B o (-1)] 106)
    obtain⟨bh,f,aN,bX⟩:=bO.out;have J:=bX.below a0;have dG:=ra l (i*3+k) c.e;have dQ:L.length<=1000:=es;obtain⟨b6,a7,il,a4,aE,co,cw⟩:=J.map.enter ph (by unfold maxLen;omega) (a:=c.e) d8.out;have a4:(Instr.mapEntry 102 (.map (D w.heap.size)) (bS c.e)).run aj (w11.alloc (Y #[B o (i:Int), B o (-1)] 106))= .ok (.tuple #[(f c.e).getD (O F 0 0),b6]) a7:=a4;have hval:=J.val c.e;have hnm:=eN hval J.map.is;have a3:=hval.kept aE (.inr hnm);have cg:w11.heap.size≠w.heap.size:=by
     obtain⟨bR,cc,A⟩:=J.map.is;intro e;rw[e,A] at aJ;cases aJ
    have bx:a7.heap[w11.heap.size]? =D (Y #[B o (i:Int), B o (-1)] 106 (0,0)):=(aE.block _ (am aJ) (fun e=>cg (cn e))).trans aJ;have cu:Rd a7 2 (D ⟨w11.heap.size,0,F⟩) 1 (ja (c.ay,af)):=by
     refine⟨rfl,fun _=>⟨w11.heap.size,0,rfl,am bx,fun j u cy=> ?_⟩⟩;rw[Nat.zero_add];refine(aB bx j).trans ?_;rw[<-cy];simp only[ja,d9.out,<-di.out,cP]
    obtain⟨cW,br⟩:=ai ((f c.e).getD (O F 0 0));rw[<-br] at a4 a3 hnm;have cx:=aE.size;have cA:w.heap.size<=a7.heap.size:=by have:=aP.out.size;simp at cx;omega
    obtain⟨G,bs⟩:=ai (c5 l (i*3+k) c.e);rw[<-bs] at a3 dG;have bg:G.length+1<=2147483648:=by omega
    obtain⟨aD,P,bP,dn,c6,c7,bo,dk,dg,de,bJ,I⟩:=rc J aE co cw br bs a3 cu hnm aN (aP.out.trans (a0.mono aP.out.size)) (aG bn.out a0 (am bn.out));clear aN bX J aE co cw hval hnm a3 cg aJ bx cu br bs cx a0 dQ
    go_wp2_with (first
     | (at_builtin;go_loud (refine sD Tryz.underlying104 uz rfl (by decide) (by decide) rfl (.tmp 53) (.tmp 57) rfl w.heap.size cW G.length (hK G) (ja (c.ay,af)) rfl bo.out cA _ rfl dk.out (uw _) bg ?_);intro bA bB cl dz bu;have cr:=(bu.grown.block w.heap.size (am bP.out) (fun e=>dg.out e.symm)).trans bP.out;obtain⟨a9,ap,ak,M⟩:=dn.out bA bB cr;have ap:(Instr.entryStore 102 (.map (D w.heap.size)) b6 bA).run aj bB= .ok () a9:=ap;have dh:=R cl;have aS:=R bu;have bN:=R ak;have bl:=R M;clear cl dz bu cr ak M)
     | fail)
    have aF:=aS.out;rw[c6.out] at aF;have cv:bB.ownsRow w.heap.size 106 2 bA ((c5 l (i*3+k) c.e).length+1) (hK (c5 l (i*3+k) c.e++ [(c.ay,af)])):=by rw[<-c7.out,uA,uB];exact dh.out
    have aH:=aD.out.map.is;have aI:=aD.out.put P.out cv aF.grown (by
     rcases aF.at_ with h1 | ⟨g,h1,ab⟩
     ·exact .inl h1
     ·exact .inr ⟨g,h1,by have:=P.out.size;omega⟩) bN.out bl.out (fun t v dS=>eN (aD.out.row t v dS).1 aH) (fun e=>by
     rcases aF.at_ with h1 | ⟨g,h1,ab⟩
     ·rw[h1] at e
      exact eN (aD.out.val c.e) aH e
     rw[h1] at e;have ag:=aD.out.map.lt;have az:=P.out.size;have:=cn e;omega)
    rw[cH.out] at aI;rw[<-tI d6.out] at aI;have ch:kf w l (i*3+(k+1)) a9:=⟨bh+1,_,by have:=de.out;omega,by rw[<-Nat.add_assoc];exact aI⟩;have b2:Below w.heap.size w a9:=((bJ.out.grown P.out bJ.out.size (fun k e=>by cases e;exact ce)).grown aS.out.grown cA (fun k bv=>(bo.out.lt k bv).1)).grown bl.out (by have:=aS.out.grown.size;omega) (fun k e=>by cases e;exact ce);have cb:a9.heap[N]? =D (Y #[B o t.1, B o t.2.1, B o t.2.2] 53 (0,0)):=by
     have h1:=(P.out.block N (am I.out) (fun e=>by
      obtain⟨bR,cc,A⟩:=aH;rw[cn e,A] at I;cases I.out)).trans I.out
     have ab:=(aS.out.grown.block N (am h1) (fun e=>dy bo.out h1 (by decide) e.symm)).trans h1;exact(bl.out.block N (am ab) (fun e=>by
      obtain⟨bR,cc,A⟩:=aI.map.is;have ag:=bN.out.is;have az:N=w.heap.size:=cn e;obtain⟨eC,eB,dM⟩:=aH;rw[az,dM] at I;cases I.out)).trans ab
    obtain⟨dd,cY,c8⟩:=cq ch b2 cb;have eP:b7.wrap ((k:Int)+1)=((k+1:Nat):Int):=by rw[ca _ (by omega)];omega
    clear aF cv aH aI ch b2 cb ap a4;go_wp2;go_roundw
    case rel=>exact⟨k+1,by omega,by first | rfl | go_num,dd,cY,c8⟩
    case measure=>simp[intOf];omega
   | true=>
    have ct:aW=af:=by
     rw[cH.out,d7.out,if_pos (of_decide_eq_true c3.out.symm),eA.out];unfold eH;rw[if_pos (of_decide_eq_true c3.out.symm)];rfl
    have di:=R ct;clear ct;go_upto_region 12 with (go_at_call 92;refine aw cF.out fun a5 bY=> ?_)
    have cB:=aQ a5 (Y #[B o c.e.1, B o c.e.2.1, B o c.e.2.2.1, B o c.e.2.2.2] 42);have bZ:=aV a5 (Y #[B o c.e.1, B o c.e.2.1, B o c.e.2.2.1, B o c.e.2.2.2] 42);have aY:=ax bY bZ;obtain⟨bO,bn,aP⟩:=cq (cG.out.below aY) (aG bG.out aY (am bG.out)) (bF.out.trans (aY.mono bF.out.size));obtain⟨a1,c1,c2,bV⟩:=dm cB;obtain⟨eD,b3⟩:=ai (a5.heap.size);rw[<-b3] at a1 c1 c2 bV |-;clear cB bZ aY bY b3 cG bG bF cF bH ap ak M;generalize a5.alloc (Y #[B o c.e.1, B o c.e.2.1, B o c.e.2.2.1, B o c.e.2.2.2] 42)=w11 at a1 c1 c2 bV bO bn aP |-;have a0:=aV w11 (Y #[B o (i:Int), B o aW] 106);have aJ:=aQ w11 (Y #[B o (i:Int), B o aW] 106)
    obtain⟨bh,f,aN,bX⟩:=bO.out;have J:=bX.below a0;have dG:=ra l (i*3+k) c.e;have dQ:L.length<=1000:=es;obtain⟨b6,a7,il,a4,aE,co,cw⟩:=J.map.enter ph (by unfold maxLen;omega) (a:=c.e) d8.out;have a4:(Instr.mapEntry 102 (.map (D w.heap.size)) (bS c.e)).run aj (w11.alloc (Y #[B o (i:Int), B o aW] 106))= .ok (.tuple #[(f c.e).getD (O F 0 0),b6]) a7:=a4;have hval:=J.val c.e;have hnm:=eN hval J.map.is;have a3:=hval.kept aE (.inr hnm);have cg:w11.heap.size≠w.heap.size:=by
     obtain⟨bR,cc,A⟩:=J.map.is;intro e;rw[e,A] at aJ;cases aJ
    have bx:a7.heap[w11.heap.size]? =D (Y #[B o (i:Int), B o aW] 106 (0,0)):=(aE.block _ (am aJ) (fun e=>cg (cn e))).trans aJ;have cu:Rd a7 2 (D ⟨w11.heap.size,0,F⟩) 1 (ja (c.ay,af)):=by
     refine⟨rfl,fun _=>⟨w11.heap.size,0,rfl,am bx,fun j u cy=> ?_⟩⟩;rw[Nat.zero_add];refine(aB bx j).trans ?_;rw[<-cy];simp only[ja,d9.out,<-di.out,cP]
    obtain⟨cW,br⟩:=ai ((f c.e).getD (O F 0 0));rw[<-br] at a4 a3 hnm;have cx:=aE.size;have cA:w.heap.size<=a7.heap.size:=by have:=aP.out.size;simp at cx;omega
    obtain⟨G,bs⟩:=ai (c5 l (i*3+k) c.e);rw[<-bs] at a3 dG;have bg:G.length+1<=2147483648:=by omega
    obtain⟨aD,P,bP,dn,c6,c7,bo,dk,dg,de,bJ,I⟩:=rc J aE co cw br bs a3 cu hnm aN (aP.out.trans (a0.mono aP.out.size)) (aG bn.out a0 (am bn.out));clear aN bX J aE co cw hval hnm a3 cg aJ bx cu br bs cx a0 dQ
    go_wp2_with (first
     | (at_builtin;go_loud (refine sD Tryz.underlying104 uz rfl (by decide) (by decide) rfl (.tmp 53) (.tmp 57) rfl w.heap.size cW G.length (hK G) (ja (c.ay,af)) rfl bo.out cA _ rfl dk.out (uw _) bg ?_);intro bA bB cl dz bu;have cr:=(bu.grown.block w.heap.size (am bP.out) (fun e=>dg.out e.symm)).trans bP.out;obtain⟨a9,ap,ak,M⟩:=dn.out bA bB cr;have ap:(Instr.entryStore 102 (.map (D w.heap.size)) b6 bA).run aj bB= .ok () a9:=ap;have dh:=R cl;have aS:=R bu;have bN:=R ak;have bl:=R M;clear cl dz bu cr ak M)
     | fail)
    have aF:=aS.out;rw[c6.out] at aF;have cv:bB.ownsRow w.heap.size 106 2 bA ((c5 l (i*3+k) c.e).length+1) (hK (c5 l (i*3+k) c.e++ [(c.ay,af)])):=by rw[<-c7.out,uA,uB];exact dh.out
    have aH:=aD.out.map.is;have aI:=aD.out.put P.out cv aF.grown (by
     rcases aF.at_ with h1 | ⟨g,h1,ab⟩
     ·exact .inl h1
     ·exact .inr ⟨g,h1,by have:=P.out.size;omega⟩) bN.out bl.out (fun t v dS=>eN (aD.out.row t v dS).1 aH) (fun e=>by
     rcases aF.at_ with h1 | ⟨g,h1,ab⟩
     ·rw[h1] at e
      exact eN (aD.out.val c.e) aH e
     rw[h1] at e;have ag:=aD.out.map.lt;have az:=P.out.size;have:=cn e;omega)
    rw[cH.out] at aI;rw[<-tI d6.out] at aI;have ch:kf w l (i*3+(k+1)) a9:=⟨bh+1,_,by have:=de.out;omega,by rw[<-Nat.add_assoc];exact aI⟩;have b2:Below w.heap.size w a9:=((bJ.out.grown P.out bJ.out.size (fun k e=>by cases e;exact ce)).grown aS.out.grown cA (fun k bv=>(bo.out.lt k bv).1)).grown bl.out (by have:=aS.out.grown.size;omega) (fun k e=>by cases e;exact ce);have cb:a9.heap[N]? =D (Y #[B o t.1, B o t.2.1, B o t.2.2] 53 (0,0)):=by
     have h1:=(P.out.block N (am I.out) (fun e=>by
      obtain⟨bR,cc,A⟩:=aH;rw[cn e,A] at I;cases I.out)).trans I.out
     have ab:=(aS.out.grown.block N (am h1) (fun e=>dy bo.out h1 (by decide) e.symm)).trans h1;exact(bl.out.block N (am ab) (fun e=>by
      obtain⟨bR,cc,A⟩:=aI.map.is;have ag:=bN.out.is;have az:N=w.heap.size:=cn e;obtain⟨eC,eB,dM⟩:=aH;rw[az,dM] at I;cases I.out)).trans ab
    obtain⟨dd,cY,c8⟩:=cq ch b2 cb;have eP:b7.wrap ((k:Int)+1)=((k+1:Nat):Int):=by rw[ca _ (by omega)];omega
    clear aF cv aH aI ch b2 cb ap a4;go_wp2;go_roundw
    case rel=>exact⟨k+1,by omega,by first | rfl | go_num,dd,cY,c8⟩
    case measure=>simp[intOf];omega
  obtain rfl:k=3:=by omega
  have er:=aK;rw[show i*3+3=(i+1)*3 by omega] at er;have e9:b7.wrap ((i:Int)+1)=((i+1:Nat):Int):=by rw[ca _ (by omega)];omega
  go_wp2;go_roundw
  case rel=>exact⟨i+1,by omega,by first | rfl | go_num,er,cL⟩
  case measure=>simp[intOf];omega
 obtain rfl:i=L.length:=by omega
 have aN:¬((L.length:Int) < (L.length:Int)):=by omega
 go_wp2;go_ret;exact⟨rfl,aK.out,bf.out⟩
end
section
open Go.Shelf
def Ct:Go.Shelf.Ren:=⟨fun | 6=>99 | 15=>105 | 14=>121 | 28=>130 | 29=>131 | 20=>134 | 21=>135 | 22=>136 | 23=>137 | 24=>138 | 25=>139 | 26=>140 | 27=>141 | 46=>155 | 47=>143 | 48=>144 | 49=>156 | 50=>157 | 57=>162 | n=>n,fun | 22=>32 | 24=>44 | 25=>115 | 3=>3 | 39=>162 | 0=>0 | 53=>185 | 55=>187 | 4=>4 | 46=>179 | 45=>178 | 50=>147 | 5=>5 | 9=>9 | 66=>195 | 70=>199 | 76=>208 | 77=>209 | n=>n,fun | n=>n⟩
theorem vC:Go.Proofs.SlLaysF0.n6 aj Ct:={
 mixed:=by kernel_rfl
 f6:=⟨Tryz.f99.name,by decide,Tryz.func99.trans (congrArg D (by kernel_rfl))⟩
 f14:=⟨Tryz.f121.name,by decide,Tryz.func121.trans (congrArg D (by kernel_rfl))⟩
 f15:=Tryz.func105.trans (congrArg D (by kernel_rfl))
 f20:=⟨Tryz.f134.name,by decide,Tryz.func134.trans (congrArg D (by kernel_rfl))⟩
 f21:=⟨Tryz.f135.name,by decide,Tryz.func135.trans (congrArg D (by kernel_rfl))⟩
 f22:=⟨Tryz.f136.name,by decide,Tryz.func136.trans (congrArg D (by kernel_rfl))⟩
 f23:=⟨Tryz.f137.name,by decide,Tryz.func137.trans (congrArg D (by kernel_rfl))⟩
 f24:=⟨Tryz.f138.name,by decide,Tryz.func138.trans (congrArg D (by kernel_rfl))⟩
 f25:=⟨Tryz.f139.name,by decide,Tryz.func139.trans (congrArg D (by kernel_rfl))⟩
 f26:=⟨Tryz.f140.name,by decide,Tryz.func140.trans (congrArg D (by kernel_rfl))⟩
 f27:=⟨Tryz.f141.name,by decide,Tryz.func141.trans (congrArg D (by kernel_rfl))⟩
 f28:=Tryz.func130.trans (congrArg D (by kernel_rfl))
 f29:=Tryz.func131.trans (congrArg D (by kernel_rfl))
 f46:=⟨Tryz.f155.name,by decide,Tryz.func155.trans (congrArg D (by kernel_rfl))⟩
 f47:=Tryz.func143.trans (congrArg D (by kernel_rfl))
 f48:=Tryz.func144.trans (congrArg D (by kernel_rfl))
 f49:=⟨Tryz.f156.name,by decide,Tryz.func156.trans (congrArg D (by kernel_rfl))⟩
 f50:=⟨Tryz.f157.name,by decide,Tryz.func157.trans (congrArg D (by kernel_rfl))⟩
 f57:=⟨Tryz.f162.name,by decide,Tryz.func162.trans (congrArg D (by kernel_rfl))⟩
 t0:=Tryz.underlying0
 a0:=Tryz.isAgg0
 z0:=Tryz.sizeOf0
 v0:=Tryz.zeroValue0
 t3:=Tryz.underlying3
 a3:=Tryz.isAgg3
 z3:=Tryz.sizeOf3
 v3:=Tryz.zeroValue3
 t4:=Tryz.underlying4
 a4:=Tryz.isAgg4
 z4:=Tryz.sizeOf4
 v4:=Tryz.zeroValue4
 t5:=Tryz.underlying5
 a5:=Tryz.isAgg5
 z5:=Tryz.sizeOf5
 v5:=Tryz.zeroValue5
 t9:=Tryz.underlying9
 a9:=Tryz.isAgg9
 z9:=Tryz.sizeOf9
 v9:=Tryz.zeroValue9
 t22:=Tryz.underlying32
 a22:=Tryz.isAgg32
 z22:=Tryz.sizeOf32
 v22:=Tryz.zeroValue32
 t25:=Tryz.underlying115
 a25:=Tryz.isAgg115
 z25:=Tryz.sizeOf115
 v25:=Tryz.zeroValue115
 t39:=Tryz.underlying162
 a39:=Tryz.isAgg162
 z39:=Tryz.sizeOf162
 v39:=Tryz.zeroValue162
 t45:=Tryz.underlying178
 a45:=Tryz.isAgg178
 z45:=Tryz.sizeOf178
 v45:=Tryz.zeroValue178
 t46:=Tryz.underlying179
 a46:=Tryz.isAgg179
 z46:=Tryz.sizeOf179
 v46:=Tryz.zeroValue179
 t50:=Tryz.underlying147
 a50:=Tryz.isAgg147
 z50:=Tryz.sizeOf147
 v50:=Tryz.zeroValue147
 t53:=Tryz.underlying185
 a53:=Tryz.isAgg185
 z53:=Tryz.sizeOf185
 v53:=Tryz.zeroValue185
 t55:=Tryz.underlying187
 a55:=Tryz.isAgg187
 z55:=Tryz.sizeOf187
 v55:=Tryz.zeroValue187
 t66:=Tryz.underlying195
 a66:=Tryz.isAgg195
 z66:=Tryz.sizeOf195
 v66:=Tryz.zeroValue195
 t70:=Tryz.underlying199
 a70:=Tryz.isAgg199
 z70:=Tryz.sizeOf199
 v70:=Tryz.zeroValue199
 t76:=Tryz.underlying208
 a76:=Tryz.isAgg208
 z76:=Tryz.sizeOf208
 v76:=Tryz.zeroValue208
 t77:=Tryz.underlying209
 a77:=Tryz.isAgg209
 z77:=Tryz.sizeOf209
 v77:=Tryz.zeroValue209}
end
section
set_option maxRecDepth 100000
variable {a b c e k:Int}
section
open Go.RowKit Go.Maps
def gT(a b:bP):Int:=eZ (f9 a.1 b.1) (cG a.2 b.2)
theorem xG(a b:Int):cG a b < 0↔a < b:=by unfold cG;split <;> (try split) <;> omega
theorem xF(a b:Int):cG a b=0↔a=b:=by unfold cG;split <;> (try split) <;> omega
theorem BC(a b:Int):eZ a b < 0↔a < 0∨a=0/\b < 0:=by unfold eZ;split <;> omega
theorem BB(a b:Int):eZ a b=0↔a=0/\b=0:=by unfold eZ;split <;> omega
theorem iD(a b:bP):gT a b < 0↔fi a b=S:=by
 rw[mX];simp only[gT,f9,gy,BC,BB,xG,xF];omega
theorem xD(x y:bP)(w:ac):Calls aj 53 #[mC x,mC y] w fun e Z=>e= .returned (.int o (gT x y))/\dz w Z:=by
 have k0:=aQ w (Y #[.int o x.1.1, .int o x.1.2.1, .int o x.1.2.2.1, .int o x.1.2.2.2, .int o x.2] 44);have av:=aW k0 (Y #[.int o y.1.1, .int o y.1.2.1, .int o y.1.2.2.1, .int o y.1.2.2.2, .int o y.2] 44);have ah:=aQ (w.alloc (Y #[.int o x.1.1, .int o x.1.2.1, .int o x.1.2.2.1, .int o x.1.2.2.2, .int o x.2] 44)) (Y #[.int o y.1.1, .int o y.1.2.1, .int o y.1.2.2.1, .int o y.1.2.2.2, .int o y.2] 44);have E:dz w ((w.alloc (Y #[.int o x.1.1, .int o x.1.2.1, .int o x.1.2.2.1, .int o x.1.2.2.2, .int o x.2] 44)).alloc (Y #[.int o y.1.1, .int o y.1.2.1, .int o y.1.2.2.1, .int o y.1.2.2.2, .int o y.2] 44)):=((dz.refl w).alloc _).alloc _;have aI:(w.alloc (Y #[.int o x.1.1, .int o x.1.2.1, .int o x.1.2.2.1, .int o x.1.2.2.2, .int o x.2] 44)).heap.size=w.heap.size+1:=by simp
 rw[aI] at ah;have I:=fun(A:ac)=>om A.heap.size 2 2 [f9 x.1 y.1,cG x.2 y.2] (A.alloc (Y #[.int o (f9 x.1 y.1), .int o (cG x.2 y.2)] 3)).drew (oc A [f9 x.1 y.1,cG x.2 y.2] 2 rfl).drew (by decide);have J:=fun(A:ac)=>om A.heap.size 2 2 [f9 x.1 y.1,cG x.2 y.2] (A.alloc (Y #[.int o (f9 x.1 y.1), .int o (cG x.2 y.2)] 3)) (oc A [f9 x.1 y.1,cG x.2 y.2] 2 rfl) (by decide);rw[rH] at I J;have ay:eZ (f9 x.1 y.1) (cG x.2 y.2)=gT x y:=rfl;rw[ay] at I J;obtain⟨a4,ax⟩:=ai (gT x y);rw[<-ax] at I J |-;have ak:=fun(A:ac)=>sV x.1.1 x.1.2.1 x.1.2.2.1 x.1.2.2.2 y.1.1 y.1.2.1 y.1.2.2.1 y.1.2.2.2 A;have al:=fun(A:ac)=>lI x.2 y.2 A;obtain⟨u,L⟩:=ai (f9 x.1 y.1);rw[show f9 (x.1.1,x.1.2.1,x.1.2.2.1,x.1.2.2.2) (y.1.1,y.1.2.1,y.1.2.2.1,y.1.2.2.2)=u from L.symm] at ak
 obtain⟨v,N⟩:=ai (cG x.2 y.2);rw[<-N] at al;simp only[<-L,<-N] at I J;obtain⟨aT,aU,aR,aS⟩:=df I J ak al;clear I J ak L al N ax ay aI;go_in;go_upto_region 1 with fail
 generalize (w.alloc (Y #[.int o x.1.1, .int o x.1.2.1, .int o x.1.2.2.1, .int o x.1.2.2.2, .int o x.2] 44)).alloc (Y #[.int o y.1.1, .int o y.1.2.1, .int o y.1.2.2.1, .int o y.1.2.2.2, .int o y.2] 44)=w2 at av ah E |-;obtain⟨aB,aE,aF,aG,aH⟩:=mI av;obtain⟨aJ,aL,aN,aO,aP⟩:=mI ah;have aY:w2.drew.cell? ⟨w.heap.size,0,F⟩=D (.int o x.1.1)/\w2.drew.cell? ⟨w.heap.size,1,F⟩=D (.int o x.1.2.1)/\w2.drew.cell? ⟨w.heap.size,2,F⟩=D (.int o x.1.2.2.1)/\w2.drew.cell? ⟨w.heap.size,3,F⟩=D (.int o x.1.2.2.2)/\w2.drew.cell? ⟨w.heap.size,4,F⟩=D (.int o x.2)/\w2.drew.cell? ⟨w.heap.size+1,0,F⟩=D (.int o y.1.1)/\w2.drew.cell? ⟨w.heap.size+1,1,F⟩=D (.int o y.1.2.1)/\w2.drew.cell? ⟨w.heap.size+1,2,F⟩=D (.int o y.1.2.2.1)/\w2.drew.cell? ⟨w.heap.size+1,3,F⟩=D (.int o y.1.2.2.2)/\w2.drew.cell? ⟨w.heap.size+1,4,F⟩=D (.int o y.2)/\dz w w2.drew:=⟨aB,aE,aF,aG,aH,aJ,aL,aN,aO,aP,E.drew⟩
 clear k0 av ah aB aE aF aG aH aJ aL aN aO aP E
 go_region_held3 (fun Z=>Z.cell? ⟨w.heap.size,0,F⟩=D (.int o x.1.1)/\Z.cell? ⟨w.heap.size,1,F⟩=D (.int o x.1.2.1)/\Z.cell? ⟨w.heap.size,2,F⟩=D (.int o x.1.2.2.1)/\Z.cell? ⟨w.heap.size,3,F⟩=D (.int o x.1.2.2.2)/\Z.cell? ⟨w.heap.size,4,F⟩=D (.int o x.2)/\Z.cell? ⟨w.heap.size+1,0,F⟩=D (.int o y.1.1)/\Z.cell? ⟨w.heap.size+1,1,F⟩=D (.int o y.1.2.1)/\Z.cell? ⟨w.heap.size+1,2,F⟩=D (.int o y.1.2.2.1)/\Z.cell? ⟨w.heap.size+1,3,F⟩=D (.int o y.1.2.2.2)/\Z.cell? ⟨w.heap.size+1,4,F⟩=D (.int o y.2)/\dz w Z)
  (first
   | with_reducible exact aY
   | with_reducible assumption
   | (go_split_ands;exact⟨aD ‹_› _,aD ‹_› _,aD ‹_› _,aD ‹_› _,aD ‹_› _,aD ‹_› _,aD ‹_› _,aD ‹_› _,aD ‹_› _,aD ‹_› _,dz.alloc ‹_› _⟩)
   | (go_split_ands;exact⟨V ‹_› r.below,V ‹_› r.below,V ‹_› r.below,V ‹_› r.below,V ‹_› r.below,V ‹_› r.below,V ‹_› r.below,V ‹_› r.below,V ‹_› r.below,V ‹_› r.below,dz.trans ‹_› r⟩))
  (first
   | ((with_reducible refine(aR.out _).mono ?_);rintro e wc ⟨s,r⟩;subst s)
   | ((with_reducible refine(aS.out _).mono ?_);rintro e wc ⟨s,G⟩;subst s;subst G)
   | ((with_reducible refine(aU.out _).mono ?_);rintro e wc ⟨s,G⟩;subst s;subst G)
   | ((with_reducible refine(aT.out _).mono ?_);rintro e wc ⟨s,G⟩;subst s;subst G))
 rename_i am
 go_wp2;go_ret;exact⟨rfl,am.2.2.2.2.2.2.2.2.2.2⟩
end
section
open Go.RowKit Go.Sort Go.Shelf Go.Maps
theorem xl:∀(l:List bP) (i j:Nat) (t:bP),l[i]? =D t->j < 5->(cV l)[5*i+j]? =(fM t)[j]? :=fun l i j t h af=>by
 obtain⟨u,L⟩:∃u,(fM t)[j]? =D u:=⟨_,bb (by rw[kj];exact af)⟩;rw[L,Nat.mul_comm 5 i];exact i4 kj h L
theorem tt(l:List bP):flatK fM 5 l.toArray=(cV l).toArray:=by
 apply Array.ext_getElem?
 intro j;by_cases af:j < l.length*5
 ·have R:j / 5 < l.length:=by omega
  have h1:=xl l (j / 5) (j % 5) (l[j / 5]) (bb R) (Nat.mod_lt _ (by decide));rw[show 5*(j / 5)+j % 5=j by omega] at h1;have aA:j < (flatK fM 5 l.toArray).size:=by simpa using af
  have ab:=get_flatK fM 5 l.toArray j (by simpa using af);rw[getElem!_pos (flatK fM 5 l.toArray) j aA,getElem!_pos l.toArray (j / 5) (by simpa using R)] at ab;rw[Array.getElem?_eq_getElem aA,ab,cP,h1];have ag:j % 5 < 5:=Nat.mod_lt _ (by decide);have az:j % 5=0∨j % 5=1∨j % 5=2∨j % 5=3∨j % 5=4:=by omega
  simp only[List.getElem_toArray];rcases az with az | az | az | az | az <;> rw[az] <;> rfl
 ·rw[Array.getElem?_eq_none (by simp;omega),cP,List.getElem?_eq_none (by rw[kk];omega)]
theorem vK:SWO (ltOf gT) where
 irrefl x:=decide_eq_false (fun h=>rt _ ((iD _ _).1 h))
 trans x y z h1 ab:=decide_eq_true ((iD _ _).2 (pn ((iD _ _).1 (of_decide_eq_true h1)) ((iD _ _).1 (of_decide_eq_true ab))))
 ntrans x y z h1 ab:=by
  have bi:¬fi x y=S:=fun h=>of_decide_eq_false h1 ((iD _ _).2 h);have bk:¬fi y z=S:=fun h=>of_decide_eq_false ab ((iD _ _).2 h);refine decide_eq_false fun h=> ?_;have ag:=(iD _ _).1 h;rw[mX] at*;omega
theorem C4(x y:bP)(h1:ltOf gT x y=Q)(ab:ltOf gT y x=Q):x=y:=by
 rcases ru x y with h | h | h
 ·exact absurd ((iD _ _).2 h) (of_decide_eq_false h1)
 ·exact h
 ·exact absurd ((iD _ _).2 h) (of_decide_eq_false ab)
def hO(l:List bP):List bP:=l.mergeSort fun x y=> !(ltOf gT) y x
theorem pR(l:List bP):(hO l).Perm l:=List.mergeSort_perm _ _
theorem CB{l:List bP}(h:l.Nodup):ie (hO l):=by
 have h1:=List.pairwise_mergeSort (le:=fun x y:bP=> !(ltOf gT) y x) (fun a b c h1 ab=>by
  simp only[Bool.not_eq_true'] at h1 ab |-;exact vK.ntrans _ _ _ ab h1) (fun a b=>by
  by_cases h:ltOf gT b a=S
  ·have:ltOf gT a b=Q:=by
    refine decide_eq_false fun ab=> ?_;exact rt _ (pn ((iD _ _).1 (of_decide_eq_true h)) ((iD _ _).1 ab))
   simp[this]
  ·simp[h]) l
 have ab:(hO l).Nodup:=(pR l).nodup_iff.2 h;unfold hO at ab |-;refine(h1.and ab).imp ?_;rintro a b ⟨ag,az⟩;rcases ru a b with h5 | h5 | h5
 ·exact h5
 ·exact absurd h5 az
 have aX:ltOf gT b a=S:=decide_eq_true ((iD _ _).2 h5);rw[aX] at ag;cases ag
theorem xH(w:ac)(bT size:Nat):CmpLays aj 53 #[] fM 5 gT bT 0 size w:=by
 intro m os bg _ x y;refine(xD x y _).mono ?_;rintro e Z ⟨rfl,q,a1,h⟩;exact⟨rfl,q,a1,h⟩
theorem zi(w:ac):(isAgg 44).run aj w= .ok S w:=by kernel_rfl
theorem Cp(w:ac):(Go.sizeOf 44).run aj w= .ok 5 w:=by kernel_rfl
theorem Cs(g M n aw:Nat)(l:List bP)(w:ac)(hn:n=l.length)(a0:w.ownsRow aw 44 5 (O (D ⟨g,0,F⟩) n M) n (cV l))(P:n<=1000000):
  Calls aj 99 #[O (D ⟨g,0,F⟩) n M, eO (.func 53) #[] #[]] w fun e Z=>
   e= .returned (.tuple #[])/\Z.ownsRow aw 44 5 (O (D ⟨g,0,F⟩) n M) n (cV (hO l))/\w.grownBy Z (D g):=by
 subst hn;rcases a0.2 with ⟨e,_⟩ | ⟨bh,bf,aV,e,aK,E,cN,ct,ee,a3⟩
 ·cases e
 cases e
 have am:HoldsK fM 5 w g 0 l.toArray:=by
  unfold HoldsK;rw[tt];refine rg (enc:=id) E ?_;rw[kk,List.map_id];exact a3
 have aZ:g < w.heap.size:=(Array.getElem?_eq_some_iff.1 E).1;have hc:=AnyQ.slices_SortFunc_total vC 5 zi Cp fM (fun _=>rfl) (fun x v N=>nY x v N) gT vK 53 #[] g 0 M l.toArray w (enters_of Tryz.func53 (by kernel_rfl) rfl) (xH w g l.toArray.size) am aZ (by simp;omega) C4;refine hc.mono ?_;rintro e Z ⟨rfl,q,os,rfl⟩;have G:sortWorldK fM 5 w g 0 q (hO l).toArray os=sortWorld id w g 0 q (cV (hO l)).toArray os:=by
  rw[<-tt];rfl
 have ar:(hO l).length=l.length:=(pR l).length_eq;have ab:(l.toArray.toList.mergeSort fun x y=> !(ltOf gT) y x)=hO l:=rfl;rw[ab,G];refine⟨rfl,⟨by rw[kk,ar], .inr ⟨g,M,_,rfl,aK,rf id _ E,cN,ct,by simp[putCells,ee], ?_⟩⟩,o7 id w g q os _⟩;have:=rX id aV (cV (hO l)).toArray (by simp[kk,ar];rw[ee];exact Nat.mul_le_mul_right 5 cN);simp only[jt,kk,ar,List.map_id] at this;exact this
end
section
open Go.RowKit Go.Maps
theorem Dp:∃d,Tryz.prog.types.size=d+4:=⟨Tryz.prog.types.size-4,by kernel_rfl⟩
theorem rq:WideMaps.KeyLaw aj 44:=deep_law_laid rp (m:=4) (by omega) (of_decide_eq_true (by kernel_rfl)) (by kernel_rfl) (by kernel_rfl)
theorem lF:Tryz.prog.cellsOf 44=5:=by kernel_rfl
theorem zL:Tryz.prog.keyType 44=S:=by kernel_rfl
theorem zJ(d:Nat)(an:bj a)(P:bj b)(hc:bj c)(s:bj e)(ap:bj k):Tryz.prog.keyLits (d+4) 44 [.int o a, .int o b, .int o c, .int o e, .int o k]=D [.int o a, .int o b, .int o c, .int o e, .int o k]:=by
 unfold Program.keyLits;rw[Tryz.underlying44];simp[eW,ep,lF,tW _ an P hc s,mV _ ap]
theorem zu(an:bj a)(P:bj b)(hc:bj c)(s:bj e)(ap:bj k):∃l,keyOf aj 44 (aq #[.int o a, .int o b, .int o c, .int o e, .int o k])=D l:=by
 obtain⟨d,R⟩:=Dp;unfold keyOf;have h:=zJ (d+1) an P hc s ap;simp[Tryz.underlying44,zL,Value.formed,lF,R,Value.cells,h]
def k6:fU bP where
 K:=44
 T:=101
 enc t:=mC t
 ok t:=bj t.1.1/\bj t.1.2.1/\bj t.1.2.2.1/\bj t.1.2.2.2/\bj t.2
 law:=Keyed.of_law rq
 ht:=Tryz.underlying101
 key a h:=zu h.1 h.2.1 h.2.2.1 h.2.2.2.1 h.2.2.2.2
 inj a b h:=by
  obtain⟨⟨ao,a2,a5,a7⟩,a8⟩:=a;obtain⟨⟨b1,aC,aM,a9⟩,be⟩:=b;simp at h;simp[h]
end
end
section
set_option maxRecDepth 100000
section
open Go.RowKit Go.Maps Go.Sort Go.Shelf
attribute [local go_sem] Oper.semAt_some
abbrev gd:KD bP:=k6.cK
theorem zw{H:Type}(y:Fence)(n:Nat)(aP:y.fn 100)(aA:y.round=F)(hn:1<=n)(l L b V N:Nat)(I:DataW H){ai:ae->Option (DataW H×List MemPlace)}(g:bP->Prop)(aH:kQ gd I g)(M:∀aE:List bP,aE.Nodup->(∀a ∈ aE,gd.ok a/\g a)->aE.length<=N)(G:List bP->ac->Prop)
  (aY:∀i x W,G i W->i.length < N->YieldAt y (n-1) aj l #[gd.enc x] W fun e W'=>e= .returned (.bool S)/\G (i++ [x]) W'/\KeepsWalks W W')
  (W:ac) (aw:AbidesFrom W.heap.size G) (bn:W.cell? ⟨L,0,F⟩=D (.map (D b))) (aL:W.ownsMap aj 44 ai b V I) (h0:G [] W):
  CallsIn y n aj 100 #[eO (.yield l) #[] #[], ad (D ⟨L,0,F⟩)] W fun e W'=>(∃v,e= .returned v)/\∃aE:List bP,oO gd g aE/\G aE W':=by
 refine callsIn_of_wp Tryz.func100 rfl aP ?_ aA;simp only[Tryz.ntmps100,jt,fJ,j5,ka,kb,jY,jZ,j9,j2,j7,jq]
 gi_wp2_with (first
  | (gi_at_range;refine wpListIn_range_own _ rfl _ 101 rfl 44 3 gd.law Tryz.underlying101 _ b V _ rfl aL ?_;intro cu b6 bT cL)
  | gi_in)
 go_frame
 gi_loopw [3] (fun _ wr=>∃(left:Lit->Bool) (bg:Nat) (aE:List bP),wr.ranges aj 44 ai b W.heap.size V I left bg/\gq gd I g left aE/\G aE wr)
  (fun _ wr=>wr.rangeLeft b W.heap.size)
 case atStart=>
  exact⟨_,_, [],b6,gq.start aH,aw [] W cu F h0 bT (fun r e=>by cases e)⟩
 obtain⟨left,bg,aE,a5,ar,bi⟩:=hrel
 gi_wp2_with (first
  | (gi_at_next;refine wpListIn_next_ranges _ rfl _ rfl 44 gd.law ai id id (fun key co aF=>⟨key,rfl⟩) (fun v _ _=>⟨v,rfl⟩) b W.heap.size V _ _ _ rfl a5 ?_ ?_)
  | gi_in)
 ·-- nothing is left
  intro cF bW
  gi_wp2
  go_end0
  exact⟨⟨_,rfl⟩,aE,⟨ar.nodup,fun a=>⟨fun h=>ar.ok a h,fun h=>ar.done bW h.1 h.2⟩⟩,bi⟩
 -- an entry has come
 intro x c co c1 c2 ah bA bV bZ bs bK a7 a2 aZ cb cG;obtain⟨a,aM,b4,J,b2,bJ⟩:=ar.bl aH bV bZ bK;have aS:=ar.step b4 J b2 bJ;have bY:aE.length < N:=by
  have:=M (aE++ [a]) aS.nodup aS.ok;simp at this;omega
 have aM:x= aq #[.int o a.1.1, .int o a.1.2.1, .int o a.1.2.2.1, .int o a.1.2.2.2, .int o a.2]:=aM;subst aM;have bF:G aE ah:=aw aE wr ah (D W.heap.size) bi aZ (fun r e=>by cases e;exact⟨ce,a5.iter_walk⟩);have aU:G aE (ah.alloc (Y #[.int o a.1.1, .int o a.1.2.1, .int o a.1.2.2.1, .int o a.1.2.2.2, .int o a.2] 44)):=aw aE ah _ F bF (World.grownBy_alloc ah _ F) (fun r e=>by cases e);obtain⟨fn,tmps,assign,body,bt,bI⟩:=aY aE a _ aU bY;have a7:=a7.of_walks (KeepsWalks.alloc ah (Y #[.int o a.1.1, .int o a.1.2.1, .int o a.1.2.2.1, .int o a.1.2.2.2, .int o a.2] 44));have bt:(Instr.yield l #[aq #[.int o a.1.1, .int o a.1.2.1, .int o a.1.2.2.1, .int o a.1.2.2.2, .int o a.2]]).run aj (ah.alloc (Y #[.int o a.1.1, .int o a.1.2.1, .int o a.1.2.2.1, .int o a.1.2.2.2, .int o a.2] 44))=_:=bt
 clear cb aM
 gi_wp2
 refine bI.mono ?_;rintro e cA ⟨rfl,aU,bU⟩
 gi_wp2
 have bp:=a7.of_walks bU;go_roundw
 case rel=>exact⟨_,bA,aE++ [a],bp,aS,aU⟩
 case measure=>rw[bp.left_eq,a5.left_eq];exact a2
theorem zy(y:Fence)(n:Nat)(ap:y.fn 52)(aA:y.round=F)(aJ:Option Nat)(w:ac):
  CallsIn y n aj 52 #[.map aJ] w fun e Z=>e= .returned (eO (.func 100) #[] #[ad (D ⟨w.heap.size,0,F⟩)])/\Z=w.alloc (Y #[.map aJ] 101):=by
 refine callsIn_of_wp Tryz.func52 rfl ap ?_ aA;simp only[Tryz.ntmps52,jt,fJ,j5,ka,kb,jY,jZ,j9,j2,j7,jq]
 gi_wp2
 go_ret;exact⟨rfl,rfl⟩
theorem zx{H:Type}(y:Fence)(n:Nat)(aP:y.fn 100)(aA:y.round=F)(hn:1<=n)(L b V N:Nat)(I:DataW H){ai:ae->Option (DataW H×List MemPlace)}(g:bP->Prop)(aH:kQ gd I g)(M:∀aE:List bP,aE.Nodup->(∀a ∈ aE,gd.ok a/\g a)->aE.length<=N)
  (w:ac) (bE:L < w.heap.size) (bn:w.cell? ⟨L,0,F⟩=D (.map (D b))) (aL:w.ownsMap aj 44 ai b V I):
  SeqGives y n aj 100 #[ad (D ⟨L,0,F⟩)] gd.enc (oO gd g) N w:=fun l G W hW aw aY h0=>by
 have b5:W.ownsMap aj 44 ai b V I:=by
  have bQ:=aL.lt;obtain⟨bC,bz,bN,bu,b9,aT⟩:=aL;exact⟨bC,bz,(hW.block b bQ).trans bN,bu,b9,aT⟩
 exact zw y n aP aA hn l L b V N I g aH M G aY W aw ((hW.cell (p:=⟨L,0,F⟩) bE).trans bn) b5 h0
theorem wO(n cw:Nat)(cR:Array ae)(ao:∀args w,(callFunc cw args).run aj w= .ok (.enter cw args) w)(g:List bP->Prop)(N:Nat)(w:ac)(hn:3<=n)(M:N<=100000)(P:SeqGives fR (n-1) aj cw cR gd.enc g N w):
  CallsIn fR n aj 120 #[O F 0 0, eO (.func cw) #[] cR] w fun e Z=>∃v aE,e= .returned v/\g aE/\aE.length<=N/\Z.ownsRow w.heap.size 44 5 v aE.length (cV aE)/\Below w.heap.size w Z:=by
 have P:=P.bounded;have bw:=R P;clear P;refine callsIn_of_wp_marks Tryz.func120 rfl trivial ?_ rfl;simp only[Tryz.ntmps120,jt,fJ,j5,ka,kb,jY,jZ,j9,j2,j7,jq]
 gi_wp2_with (fail)
 have a9:(w.alloc (Y #[O F 0 0] 32)).heap[w.heap.size]? =D (Y #[O F 0 0] 32 (0,0)):=dE _ rfl;have T:Below w.heap.size w (w.alloc (Y #[O F 0 0] 32)):=aV _ _;generalize w.alloc (Y #[O F 0 0] 32)=W0 at a9 T |-;refine vi rfl (by omega) (cw:=cw) (cR:=cR) rfl trivial ao bw.out T rfl
  (fun i W=>∃v,W.heap[w.heap.size]? =D (Y #[v] 32 (0,0))/\W.ownsRow W0.heap.size 44 5 v i.length (cV i)/\Below w.heap.size w W/\i.length<=N/\W0.heap.size<=W.heap.size)
  (fun s A C row ⟨v,h1,ab,ag,az,z⟩ aD a4=>⟨v,qL h1 aD (fun r e=>(a4 r e).2),uW ab aD (fun r e=>(a4 r e).2),ag.grown aD ag.size (fun k e=>ec T.size (a4 k e).1),az,ec z aD.size⟩)
  (fun s W l af bX aK ⟨v,h1,ab,ag,az,z⟩ av E=>⟨v,ma h1 av E,nd ab av E,mG ag (ec T.size aK) ag.size,az,ec z (grownBy_putObj' W l bX).size⟩)
  ⟨O F 0 0,a9,World.ownsRow_nil _ _ _ _,T,Nat.zero_le _,ce⟩
  (fun x W=>{tmps:=#[O F 0 0, eO (.func cw) #[] cR, ad (D ⟨w.heap.size,0,F⟩),U, O F 0 0, ad (D ⟨W.heap.size,0,F⟩), eO (.func cw) #[] cR, aq #[.int o x.1.1, .int o x.1.2.1, .int o x.1.2.2.1, .int o x.1.2.2.2, .int o x.2],U,U,U,U,U],defers:= []})
  (fun i x an W=>∃v,W.heap[w.heap.size]? =D (Y #[v] 32 (0,0))/\W.ownsRow W0.heap.size 44 5 v i.length (cV i)/\Below w.heap.size w W/\i.length<=N/\W0.heap.size<=W.heap.size/\W.heap[an.heap.size]? =D (Y #[.int o x.1.1, .int o x.1.2.1, .int o x.1.2.2.1, .int o x.1.2.2.2, .int o x.2] 44 (0,0))/\v.ownBlock≠D an.heap.size/\W0.heap.size<=an.heap.size)
  (fun s x an W l af bX aK ⟨v,h1,ab,ag,az,z,aC,ap,bL⟩ av E=>⟨v,ma h1 av E,nd ab av E,mG ag (ec T.size aK) ag.size,az,ec z (grownBy_putObj' W l bX).size,ma aC av E,ap,bL⟩)
  ?assign ?body ?done
 case assign=>
  rintro l i x W K ⟨v,h1,ab,ag,az,z⟩ a2 ax;have bk:gd.enc x= aq #[.int o x.1.1, .int o x.1.2.1, .int o x.1.2.2.1, .int o x.1.2.2.2, .int o x.2]:=rfl;rw[bk];clear bk;have bj:=ax (W.alloc (Y #[.int o x.1.1, .int o x.1.2.1, .int o x.1.2.2.1, .int o x.1.2.2.2, .int o x.2] 44)) (qd _ _) ⟨v,aW h1 _,ab.alloc _,ag.alloc ag.size _,az,by simp;omega,aQ W _,uS ab,z⟩;have bv:=R bj;clear ax bj h1 ab ag az
  gi_wp2
  exact bv.out
 case body=>
  rintro l i x an W a2 ⟨v,h1,ab,ag,az,z,aC,ap,bL⟩;obtain⟨cW,cX,cY,cZ,c0⟩:=mI aC;have a0:=aB h1 0;simp only[cP,cU,List.getElem?_cons_succ] at a0;have cJ:w.heap.size < W0.heap.size:=am a9;have cE:=am h1;obtain⟨cl,al,ci,cj,ck⟩:=info_parts lH;obtain⟨be,ak,bf⟩:=cq h1 ab ag;clear h1 ab ag aC ap
  gi_wp2_with (first | (gi_at_builtin;refine wpListIn_append_own _ rfl (.tmp 8) (.tmp 10) 32 rfl W0.heap.size 44 cl (aq #[.int o 0, .int o 0, .int o 0, .int o 0, .int o 0]) 5 40 Tryz.underlying32 al ci cj ck rfl (by decide) v i.length (cV i) rfl (bo ak.out (aV _ _)) ⟨W.heap.size,0,F⟩ 1 1 [.int o x.1.1, .int o x.1.2.1, .int o x.1.2.2.1, .int o x.1.2.2.2, .int o x.2] rfl rfl (uP W _ _) (nY _) (by unfold maxLen;omega) (by omega) (by simp;omega) ?_;intro cQ cv a3 bm _;obtain⟨bh,dk,cC,cg,_,_,_,_⟩:=dF a3 (by omega);subst cg;have aR:Below W0.heap.size (W.alloc (Y #[.int o x.1.1, .int o x.1.2.1, .int o x.1.2.2.1, .int o x.1.2.2.2, .int o x.2] 44)) cv:=aX.grown bm (by simp;omega) (fun k aF=>(ak.out.lt k aF).1);have aN:=aG (aW be.out _) aR (by omega);have cy:=aB aN 0;simp only[cP,cU] at cy;have cD:=br aN;have cM:=am aN))
  have b8:=bo ak.out (aV W (Y #[.int o x.1.1, .int o x.1.2.1, .int o x.1.2.2.1, .int o x.1.2.2.2, .int o x.2] 44));have bR:=im b8;refine⟨?_, O (D ⟨bh,0,F⟩) (i.length+1) dk, ?_, ?_, ?_,by simp;omega,by rw[World.size_setCell];have:=aR.size;simp at this;omega⟩;·exact(qd _ _).trans ((KeepsOthers.of_grownBy bm (fun j af a1 E=>by obtain⟨cs,z⟩:=bR j a1;rw[z] at E;rw[<-cn E];rfl)).trans (KeepsOthers.setCell _ _ _))
  ·have:=bq aN 0 (O (D ⟨bh,0,F⟩) (i.length+1) dk)
   simpa using this
  ·rw[List.length_append,List.length_singleton,nZ,show cV [x]= [.int o x.1.1, .int o x.1.2.1, .int o x.1.2.2.1, .int o x.1.2.2.2, .int o x.2] from rfl]
   exact dg a3 (fun k aF=>by have:=(a3.lt k aF).1;omega) 0 _
  ·exact(bf.out.trans (((aV W _).mono bf.out.size).trans (aR.mono (show w.heap.size<=W0.heap.size by omega)))).setCell (by simp) _
 rintro cz cx W aT ⟨J,ch⟩ ⟨v,h1,ab,ag,az,z⟩ ax;have cr:=aB h1 0;simp only[cP,cU] at cr;obtain⟨be,ak,du⟩:=cq h1 ab J;clear h1 ab J
 gi_wp2
 refine⟨by simp, .inl ⟨_,_,rfl,run_takeDeferred ax, ?_⟩⟩;have bG:=nd (bX:= .deferred F) ak.out ax rfl;have bH:=mG (bX:= .deferred F) ag (ec T.size aT) ag.size;exact⟨v,by simp[results,Tryz.results120,go_sem],v,cx,rfl,du.out,ch,dn bG T.size,bH⟩
theorem xJ(n cw:Nat)(cR:Array ae)(ao:∀args w,(callFunc cw args).run aj w= .ok (.enter cw args) w)(g:List bP->Prop)(N:Nat)(w:ac)(hn:4<=n)(M:N<=100000)(P:SeqGives fR (n-1-1) aj cw cR gd.enc g N w):
  CallsIn fR n aj 98 #[eO (.func cw) #[] cR] w fun e Z=>∃v aE,e= .returned v/\g aE/\aE.length<=N/\Z.ownsRow w.heap.size 44 5 v aE.length (cV aE)/\Below w.heap.size w Z:=by
 have aO:=wO (n-1) cw cR ao g N w (by omega) M P;have h1:1<=n:=by omega
 have bS:fR.fn 120:=trivial;refine callsIn_of_wp Tryz.func98 rfl trivial ?_ rfl;simp only[Tryz.ntmps98,jt,fJ,j5,ka,kb,jY,jZ,j9,j2,j7,jq]
 gi_wp2_with (gi_at_call 120;refine aO.mono ?_;rintro e cT ⟨v,aE,rfl,J,av,E,ay⟩)
 go_ret;exact⟨v,aE,rfl,J,av,E,ay⟩
theorem Cy(n cw:Nat)(cR:Array ae)(ao:∀args w,(callFunc cw args).run aj w= .ok (.enter cw args) w)(g:List bP->Prop)(N:Nat)(w:ac)(hn:5<=n)(M:N<=100000)(P:SeqGives fR (n-1-1-1) aj cw cR gd.enc g N w):
  CallsIn fR n aj 51 #[eO (.func cw) #[] cR, eO (.func 53) #[] #[]] w fun e Z=>∃v aE,e= .returned v/\g aE/\aE.length<=N/\Z.ownsRow w.heap.size 44 5 v aE.length (cV (hO aE))/\Below w.heap.size w Z:=by
 have aO:=xJ (n-1) cw cR ao g N w (by omega) M P;have h1:1<=n:=by omega
 have bS:fR.fn 98:=trivial;have cH:fR.fn 99:=trivial;refine callsIn_of_wp Tryz.func51 rfl trivial ?_ rfl;simp only[Tryz.ntmps51,jt,fJ,j5,ka,kb,jY,jZ,j9,j2,j7,jq]
 gi_wp2_with (gi_at_call 98;refine aO.mono ?_;rintro e W ⟨v,aE,rfl,J,av,a8,ay⟩)
 rcases a8.2 with ⟨bs,aI⟩ | ⟨bD,bx,cB,rfl,bO,cI,cN,ct,ee,cO⟩
 ·subst bs
  have cd:aE= []:=List.length_eq_zero_iff.1 aI;subst cd;have cS:=AnyF.slices_SortFunc_none vC F 0 (eO (.func 53) #[] #[]) W
  gi_wp2_with (gi_at_call 99;refine(callsIn_wide.2 cS).mono ?_;rintro e Z ⟨rfl,rfl⟩)
  go_ret;have bB:hO []= []:=by simp[hO]
  exact⟨O F 0 0, [],rfl,J,av,by rw[bB];exact a8,ay⟩
 have cS:=Cs bD bx aE.length w.heap.size aE W rfl a8 (by omega)
 gi_wp2_with (gi_at_call 99;refine(callsIn_wide.2 cS).mono ?_;rintro e Z ⟨rfl,b3,aZ⟩)
 go_ret;exact⟨_,aE,rfl,J,av,b3,ay.grown aZ ay.size (fun j a1=>by cases a1;exact bO)⟩
end
end
section
open Go.RowKit Go.Maps
theorem co.zz{G:Type}{k:fU G}{w:ac}{b n:Nat}{f:G->Option Int}(h:co k w b n f):
  ∃r:DataW Unit,w.ownsMap aj k.K (plainElem aj 3) b n r/\kQ k.cK r (fun a=>(f a).isSome=S):=by
 obtain⟨r,h1,ab,E,ah,ai,g,ak⟩:=h;refine⟨r,h1,fun a l c av=>by rw[(ab a l c av).1],fun l av=> ?_⟩;obtain⟨A,rfl,al⟩:=h1.tidy k.law;have J:∀l,Maps.has (.map A:DataW Unit) l=S->l ∈ A.map (·.1):=by
  intro l av;rw[Maps.has_eq,List.any_eq_true] at av;obtain⟨p,Z,af⟩:=av;exact j6.2 ⟨p,Z,WideAt.sameKey_eq af⟩
 have M:∀a:G,∃l:Lit,k.ok a->keyOf aj k.K (k.enc a)=D l:=fun a=>by
  by_cases c:k.ok a
  ·obtain⟨l,av⟩:=k.key a c
   exact⟨l,fun _=>av⟩
  ·exact⟨.bool S,fun h=>absurd h c⟩
 obtain⟨z,s⟩:=Classical.axiomOfChoice M;apply mr
 intro V;have hnd:(E.map z).Nodup:=by
  rw[oG,List.pairwise_map];refine(oG.1 ah).imp_of_mem ?_;intro x y i ag R e;have I:=s x (g x i);have L:=s y (g y ag);rw[e] at I;exact R (k.inj _ _ (k.law.inj I L))
 have T:l ∉ E.map z:=by
  intro P;obtain⟨a,c,e⟩:=j6.1 P;exact V ⟨a,g a c,by rw[<-e];exact s a (g a c)⟩
 have N:=@ik _ (fun a b=>Classical.propDecidable (a=b)) (l::E.map z) (A.map (·.1)) (List.nodup_cons.2 ⟨T,hnd⟩) (fun x i=>by
  rcases List.mem_cons.1 i with rfl | i
  ·exact J _ av
  obtain⟨a,c,rfl⟩:=j6.1 i;refine J _ ?_;rw[(ab a (z a) (g a c) (s a (g a c))).1];exact(ai a).2 c)
 rw[Maps.size_eq] at ak;simp only[fJ,List.length_map] at N;omega
end
section
open Go.RowKit Go.Maps
variable {e:aO}{cs:List bw}{L:List ah}{i j k:Nat}{t:ah}
theorem AK(h:dN t)(al:i < 3)(G:j < 3)(P:bE t i=bE t j):i=j:=by
 obtain⟨x,y,ht⟩:=iM h;rcases e7 al with rfl | rfl | rfl <;> rcases e7 G with rfl | rfl | rfl <;> rcases ht with rfl | rfl | rfl | rfl <;> simp[m4,m5,m6,n10,n11,n12,n20,n21,n22,n30,n31,n32] at P |- <;> omega
theorem zF(h:ea cs e≠0):∃c ∈ cs,c.1=e:=by
 induction cs with
 | nil=>exact absurd rfl h
 | cons c cs V=>
  unfold ea at h;by_cases hc:c.1=e
  ·exact⟨c,List.mem_cons_self,hc⟩
  rw[if_neg hc] at h;obtain⟨d,N,K⟩:=V h;exact⟨d,List.mem_cons_of_mem _ N,K⟩
theorem xZ(h:eQ L F cs=S)(b:ea cs e≠0):gC L e=S:=by
 obtain⟨c,hc,rfl⟩:=zF b;obtain⟨i,al⟩:=List.getElem?_of_mem hc;have:=o3.1 h i c al;unfold et at this;simp only[Bool.and_eq_true] at this;exact this.2
theorem zt{aU:aO->Option Int}(hnd:L.Nodup)(bL:∀t ∈ L,eD t)(z:∀e,(aU e).getD 0=ea cs e)(E:eQ L F cs=S)(ht:L[i]? =D t)(b:k < 3)(G:fj L i k=D j):hG L aU t (j:Int) [0,1,2]=ea cs (bk t k):=by
 have az:=(bL t (List.mem_of_getElem? ht)).2.2;have J:=oe ht G;have key:∀a,a < 3->(((eH L (bE t a)).getD 0=(j:Int)/\¬(aU (bk t a)).getD 0=0)↔a=k/\¬ea cs (bk t k)=0):=by
  intro a s;rw[z];by_cases I:bE t a ∈ L
  ·have hn:(eH L (bE t a)).getD 0=((L.idxOf (bE t a):Nat):Int):=by unfold eH;rw[if_pos I];rfl
   rw[hn];constructor
   ·rintro⟨g1,g2⟩
    have M:L.idxOf (bE t a)=j:=by omega
    have A:=bb (List.idxOf_lt_length_of_mem I);rw[List.getElem_idxOf] at A;rw[M,J] at A;have:a=k:=AK az s b (cn A).symm;subst this;exact⟨rfl,g2⟩
   rintro⟨rfl,g2⟩;exact⟨by rw[jI hnd J],g2⟩
  have aI:ea cs (bk t a)=0:=by
   apply mr
   intro T;have:=xZ E T;rw[rj (fun t ht=>(bL t ht).2.2) az s,decide_eq_false I,Bool.and_false] at this;cases this
  constructor
  ·rintro⟨_,g2⟩
   exact absurd aI g2
  rintro⟨rfl,g2⟩;exact absurd aI g2
 have step:∀a r,a < 3->hG L aU t (j:Int) (a::r)=if a=k/\¬ea cs (bk t k)=0 then ea cs (bk t a) else hG L aU t (j:Int) r:=by
  intro a r s;by_cases hc:a=k/\¬ea cs (bk t k)=0
  ·rw[if_pos hc]
   unfold hG;rw[if_pos ((key a s).2 hc),z]
  rw[if_neg hc]
  conv=>lhs;unfold hG
  rw[if_neg (fun g=>hc ((key a s).1 g))]
 rw[step 0 _ (by omega),step 1 _ (by omega),step 2 _ (by omega)];by_cases aI:ea cs (bk t k)=0
 ·rw[if_neg (fun h=>h.2 aI),if_neg (fun h=>h.2 aI),if_neg (fun h=>h.2 aI),aI]
  rfl
 ·rcases e7 b with rfl | rfl | rfl <;> simp[aI]
theorem AD{ms:List aR}{h:List Int}{aU:aO->Option Int}(hnd:L.Nodup)(bL:∀t ∈ L,eD t)(z:∀e,(aU e).getD 0=ea cs e)(E:eQ L F cs=S)(ht:L[i]? =D t)(b:k < 3):
  l5 L ms h aU t (ms.getD i zeroV) i (c0 L ms cs i k).an=l9 h (c0 L ms cs i k):=by
 unfold l5 l9;rw[oX]
 cases hf:fA L ms i (c0 L ms cs i k).an with
 | false=>rfl
 | true=>
  rw[<-oX] at hf;obtain⟨j,Z,ab,_⟩:=q6 hf;rw[ab,zt hnd bL z E ht b Z];have R:(c0 L ms cs i k).kind=ea cs (bk t k):=by
   unfold c0;rw[cf (l:=L),ht];rfl
  rw[R];rfl
end
end Go.Proofs.YteaeipgfjmnecaaGreatDoor

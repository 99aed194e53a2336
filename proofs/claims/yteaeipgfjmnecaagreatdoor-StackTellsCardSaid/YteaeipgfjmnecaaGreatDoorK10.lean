/- Lemmas; each says its own conditions. -/
import Derived.Test.YteaeipgfjmnecaaGreatDoorK09
import Derived.Test.YteaeipgfjmnecaaGreatDoorK08
import Derived.Shelf.SlSortCmp.Whole1
open Bool renaming false->Q,true->S
open Classical renaming propDecidable->ic
open Decidable renaming decide->au
open Go renaming Value->ae,World->ac,bodyPost_ret->cT,heap_alloc_new->aQ,undef->U
open Go.Act renaming put->a6
open Go.IntKind renaming i64->o
open List renaming getD_eq_getElem?_getD->cf,getElem?_eq_getElem->bb,getElem?_eq_some_iff->bM,mem_of_getElem?->cH,setIfInBounds_toArray->bd,set_cons_succ->ba,set_cons_zero->bc
open Go.Obj renaming cells->Y
open Option renaming none->F,some->D
open Option.some renaming inj->cn
open Go.Proofs.Tryz renaming prog->aj
open Go.Value renaming agg->aq,bool->aa,int->B,pointer->ad,slice->O
namespace Go.Proofs.YteaeipgfjmnecaaGreatDoor
set_option linter.unusedSimpArgs false
set_option linter.unusedVariables false
set_option maxHeartbeats 12800000
section
set_option maxRecDepth 100000
open Go.RowKit Go.Maps
variable {L:List ah}{ms:List aR}{b:Nat}{m:aR}{w:ac}
theorem fK.one(h:w.heap[b]? =D (Y #[B o m.1, B o m.2.1, B o m.2.2.1, B o m.2.2.2.1, B o m.2.2.2.2.1, B o m.2.2.2.2.2] 64 (0,0))):fK w b [m]:=h
theorem fK.kZ(h:fK w b [m]):w.cell? ⟨b,0,F⟩=D (B o m.1)/\w.cell? ⟨b,1,F⟩=D (B o m.2.1)/\w.cell? ⟨b,2,F⟩=D (B o m.2.2.1)/\w.cell? ⟨b,3,F⟩=D (B o m.2.2.2.1)/\w.cell? ⟨b,4,F⟩=D (B o m.2.2.2.2.1)/\w.cell? ⟨b,5,F⟩=D (B o m.2.2.2.2.2):=by
 have h1:=h.at_ (j:=0) (m:=m) rfl;simpa only[Nat.zero_mul,Nat.zero_add] using h1
theorem hJ(h:bf m=S):kO m 1000000:=by
 unfold bf cE cJ at h;simp only[Bool.and_eq_true,decide_eq_true_eq] at h;exact⟨h.1,⟨h.2.1.1.1.1,h.2.1.1.1.2⟩,h.2.1.1.2.1,h.2.1.1.2.2⟩
open Classical in
noncomputable def nC(L:List ah)(C:aO->Bool)(ms:List aR):Bool:=au (∀i k,i < L.length->k < 3->fv L C ms i k)
theorem Dz{C:aO->Bool}(h:∀i k,i < L.length->k < 3->fv L C ms i k):nC L C ms=S:=@decide_eq_true _ (ic _) h
theorem Dy{C:aO->Bool}(h:¬∀i k,i < L.length->k < 3->fv L C ms i k):nC L C ms=Q:=@decide_eq_false _ (ic _) h
theorem Dx{C:aO->Bool}:nC L C ms=S↔∀i k,i < L.length->k < 3->fv L C ms i k:=@decide_eq_true_iff _ (ic _)
theorem DA(ar aA bz bg W H d1 aJ:Nat)(aS bD bJ ev ew:ae)(L:List ah)(dc mk:Nat)(aU:aO->Option Int)(db:Option Addr)(eX:Nat)(ms:List aR)(w:ac)(cB:Steps w)(c5:eE w aA bz bg W H aS bD bJ L dc mk aU)(cz:w.ownsRow d1 53 3 bJ L.length (bn L))
  (dB:∀t ∈ L,eD t) (el:0 < L.length) (eC:L.length<=1000) (dS:ms.length=L.length) (dO:Rd w 6 db L.length (b5 ms)) (cC:dP w ar aA (O db L.length eX) ev ew aJ) (dQ:∀m ∈ ms,bf m=S):
  Calls aj 46 #[ad (D ⟨ar,0,F⟩)] w fun r Z=>r= .returned (aa (nC L (n7 aU) ms))/\Below w.heap.size w Z:=by
 obtain⟨C,cM⟩:=ai (n7 aU);rw[<-cM];obtain⟨dw,co⟩:=ai (nC L C ms);rw[<-co];have dV:(∀i k,i < L.length->k < 3->fv L C ms i k)->dw=S:=fun h=>co.trans (Dz h);have dT:(¬∀i k,i < L.length->k < 3->fv L C ms i k)->dw=Q:=fun h=>co.trans (Dy h);obtain⟨eh,dr⟩:=aY dV dT;clear dV dT co;have c:=cC.a1;have g:=cC.c1;have bC:=c5.bC;obtain⟨d6,dv,dt,du,d8,cF,bL,eg,eb⟩:=jG cM c5 cz cB dB dO dS cC dQ;clear c5 cz cB dB dO dS cM cC dQ;go_in;obtain⟨gt,dx,eB,es,_,_,_,_⟩:=dF dt.out el;subst es
 go_wp2_with fail
 go_loopw [18] (fun v wr=>∃i:Nat,i<=L.length/\v= B o i/\Hid (∀bj k,bj < i->k < 3->fv L C ms bj k)/\Below w.heap.size w wr) (fun v _=>L.length-(intOf v).toNat)
 case atStart=>exact⟨0,by omega,rfl,R (fun bj k h=>by omega),aX⟩
 obtain⟨i,al,rfl,dU,bT⟩:=hrel;by_cases cv:i < L.length
 ·obtain⟨t,ht⟩:∃t,L[i]? =D t:=⟨_,bb cv⟩
  obtain⟨br,bs,bt⟩:=ey (bo dt.out bT) ht;have cV:=d8.out t (cH ht);have hts:=cV.sm;have eJ:(i:Int) < (L.length:Int):=by omega
  have eI:(0:Int)<=(i:Int):=by omega
  have eW:=fun(dX:ac) (b6:Below wr.heap.size wr dX)=>n4 t.1 t.2.1 t.2.2 dX (du.out.below (bT.trans (b6.mono bT.size))) (by have:=hts.1;omega) (by have:=hts.1;omega) (by have:=hts.2.1;omega) (by have:=hts.2.1;omega) hts.2.2.1 hts.2.2.2;obtain⟨dd,cG,di⟩:=cq eW ht cV;obtain⟨dZ,rfl⟩:=ai wr;have cR:=aV dZ (Y #[B o t.1, B o t.2.1, B o t.2.2] 53);clear eW ht cV hts
  go_wp2_with (go_at_call 89;refine aw (dd.out _ cR) fun dY cQ=> ?_)
  have ei:=aQ dZ (Y #[B o t.1, B o t.2.1, B o t.2.2] 53);have dE:=ax (bT.trans (cR.mono bT.size)) cQ;have ei:=aG ei cQ (am ei);have dn:=R ei;clear br bs bt dd cQ cR ei;go_loopw [25] (fun v wr=>∃k:Nat,k<=3/\v= B o k/\Hid (∀I,I < k->fv L C ms i I)/\Below dY.heap.size dY wr) (fun v _=>3-(intOf v).toNat)
  case atStart=>exact⟨0,by omega,rfl,R (fun I h=>by omega),aX⟩
  obtain⟨k,dM,rfl,cA,cU⟩:=hrel;have ct:=dE.trans (cU.mono dE.size);by_cases bF:k < 3
  ·have eK:(k:Int) < 3:=by omega
   have en:∀w,(Instr.index 145 (kS (ci t.1 t.2.1 t.2.2 0) (ci t.1 t.2.1 t.2.2 1) (ci t.1 t.2.1 t.2.2 2)) (B o k)).run aj w= .ok (bS (bk t k)) w:=fun w=>pb t k bF w;have hts:=di.out.sm;have cX:=di.out.iI bF;have cY:=hts.iI bF;have c4:=hts.next bF;have cL:=fun(ex:ac)=>oi t.1 t.2.1 t.2.2 k ex bF (by have:=hts.1;omega) (by have:=hts.1;omega) (by have:=hts.2.1;omega) (by have:=hts.2.1;omega) hts.2.2.1 hts.2.2.2;have c2:=fun h=>px (k:=k) cG.out h;have hns:=fun h=>og (k:=k) cG.out h;obtain⟨aZ,a3,m,hA,c0,eF,aI,aL,aM,aN,aP,aW⟩:=Rd.mp (by rw[bL.out];exact cF.out) (show i < ms.length by rw[bL.out];exact cv);subst hA;obtain⟨aI,aL,aM,aN,aP,aW⟩:=jf ct aI aL aM aN aP aW;have hst:=rV (C:=C) (k:=k) cG.out m;have dR:ms.getD i zeroV=m:=by rw[cf,c0];rfl
   have dK:=hJ (eb.out m (cH c0));obtain⟨E,dA⟩:=ai (bk t k);obtain⟨bl,cP⟩:=ai (bE t k);rw[show dI t.1 t.2.1 t.2.2 k=bl from cP.symm] at cL;rw[<-cP] at c4 c2 hns;rw[<-dA] at en cX cY hst;obtain⟨de,ec,ee,J,dj,ea,ed,cj,d7⟩:=jG cL c2 hns hst cX cY c4 dR dK;clear cL c2 hns hst cX cY c4 dA cP hts c0 dR dK;obtain⟨aH,rfl⟩:=ai wr
   go_wp2_with fail
   have e8:=aQ aH (Y #[B o E.1, B o E.2.1, B o E.2.2.1, B o E.2.2.2] 42);have cr:=aV aH (Y #[B o E.1, B o E.2.1, B o E.2.2.1, B o E.2.2.2] 42);obtain⟨y,ap,ak,z⟩:=dm e8;have bm:=ct.trans (cr.mono ct.size);obtain⟨aI,aL,aM,aN,aP,aW⟩:=jf cr aI aL aM aN aP aW;have bP:=cU.trans (cr.mono cU.size);clear e8;generalize aH.alloc (Y #[B o E.1, B o E.2.1, B o E.2.2.1, B o E.2.2.2] 42)=w8 at y ap ak z aI aL aM aN aP aW cr bm bP |-;have ei:=aG dn.out bP (am dn.out);obtain⟨br,bs,bt⟩:=dl ei;have c:=V c bm;have g:=V g bm;have ce:=dv.out.below bm;have b8:=ce.b8;have dk:=ce.dk;have cx:=fun(W':ac) (b6:Below w8.heap.size w8 W')=>(ce.below b6).look ed.out;obtain⟨d5,cN⟩:=ai (au (bl ∈ L))
   rw[<-cN] at cx;obtain⟨b3,b4⟩:=ai ((eH L bl).getD 0);rw[<-b4] at cx;obtain⟨dh,ef,dp,eA⟩:=df cN b4 cx ce;clear cN b4 cx ce ei
   cases d5 with
   | false=>
    refine bW (fin:= ?z1) [ad (D ⟨ar,0,F⟩), ad (D ⟨ar,0,F⟩), ad (D ⟨ar,0,F⟩), ad (D ⟨aA,0,F⟩), ad (D ⟨aA,0,F⟩), ad (D ⟨aA,5,F⟩), .map (D bz),bK t, B o (k:Int),bK bl, .tuple #[B o b3, aa Q], .tuple #[B o b3, aa Q], B o b3, aa Q, B o b3, aa Q] ?hf bp (by kernel_rfl) rfl fun l hst=> ?_;case hf=>simp only[aT,a6,bd,ba,bc];exact rfl
    have N:=R hst;have a:=hst;obtain⟨c,g,b8,dk,br,bs,bt,y,ap,ak,z,aI,aL,aM,aN,aP,aW⟩:=rQ a c g b8 dk br bs bt y ap ak z aI aL aM aN aP aW;constructor
    ·iterate 16 refine⟨?_,fun K s=> ?_⟩
     ·trivial
     all_goals try (go_simp;exact s _ N.out;done)
     ·have bG:=dp.out l a
      go_simp;exact s _ N.out
     go_simp;exact aw (de.out _) fun wc A=>s _ (ax a A)
    have bO:=bm.trans (a.mono bm.size);have bQ:=bP.trans (a.mono bP.size);obtain⟨a4,rfl⟩:=ai l
    go_wp2_with fail
    have cg:=aQ a4 (Y #[B o m.1, B o m.2.1, B o m.2.2.1, B o m.2.2.2.1, B o m.2.2.2.2.1, B o m.2.2.2.2.2] 64);have a8:=aV a4 (Y #[B o m.1, B o m.2.1, B o m.2.2.1, B o m.2.2.2.1, B o m.2.2.2.2.1, B o m.2.2.2.2.2] 64);obtain⟨c,g,dk,y,ap,ak,z⟩:=kD a8 c g dk y ap ak z;have a0:=bO.trans (a8.mono bO.size);have be:=bQ.trans (a8.mono bQ.size);have bZ:=R (fK.one cg);clear cg aI aL aM aN aP aW b8 br bs bt a a8;generalize a4.alloc (Y #[B o m.1, B o m.2.1, B o m.2.2.1, B o m.2.2.2.1, B o m.2.2.2.2.1, B o m.2.2.2.2.2] 64)=w10 at c g dk y ap ak z a0 be bZ |-;refine bW (fin:= ?z2) [aa Q, aa Q,U,U,U,U,U,U,U,U,U,U, aa Q] ?hf bp (by kernel_rfl) rfl fun l hst=> ?_
    case hf=>simp only[aT,a6,bd,ba,bc];exact rfl
    have N:=R hst;have a:=hst;obtain⟨c,g,dk,y,ap,ak,z⟩:=kD a c g dk y ap ak z;constructor
    ·iterate 13 refine⟨?_,fun K s=> ?_⟩
     ·trivial
     all_goals try (go_simp;exact s _ N.out;done)
    go_wp2_with fail
    have b7:=a0.trans (a.mono a0.size);have bB:=be.trans (a.mono be.size);obtain⟨bI,rfl⟩:=ai l;clear a;refine bW (fin:= ?z3) [aa Q, aa Q,U,U,U,U,U,U,U,U,U, aa Q] ?hf bp (by kernel_rfl) rfl fun l a=> ?_;case hf=>simp only[aT,a6,bd,ba,bc];exact rfl
    have J:=R a;obtain⟨c,g,dk,y,ap,ak,z⟩:=kD a c g dk y ap ak z;constructor
    ·iterate 12 refine⟨?_,fun K s=> ?_⟩
     ·trivial
     all_goals try (go_simp;exact s _ J.out;done)
    have bA:bl ∉ L:=of_decide_eq_false dh.out.symm;have bV:=ec.out bA;have ay:∀I,I < k+1->fv L C ms i I:=by
     intro I ca;by_cases e:I=k
     ·subst e
      intro dW bq;rw[bV] at bq;cases bq
     ·exact cA.out I (by omega)
    have bu:=R ay;have a9:=bB.trans (a.mono bB.size);clear ay bV bA;go_wp2;go_roundw
    case rel=>exact⟨k+1,by omega,by go_num,bu,a9⟩
    case measure=>simp[intOf];omega
   | true=>
    have bA:bl ∈ L:=of_decide_eq_true dh.out.symm;obtain⟨j,cw⟩:=ai (L.idxOf bl);have dL:j < L.length:=by rw[cw];exact List.idxOf_lt_length_of_mem bA
    have b4:b3=(j:Int):=by rw[ef.out,cw];unfold eH;rw[if_pos bA];rfl
    subst b4;have bV:=ee.out bA;rw[<-cw] at bV;have ck:=R bV;clear bA cw bV;refine bW (fin:= ?z4) [ad (D ⟨ar,0,F⟩), ad (D ⟨ar,0,F⟩), ad (D ⟨ar,0,F⟩), ad (D ⟨aA,0,F⟩), ad (D ⟨aA,0,F⟩), ad (D ⟨aA,5,F⟩), .map (D bz),bK t, B o (k:Int),bK bl, .tuple #[B o (j:Int), aa S], .tuple #[B o (j:Int), aa S], B o (j:Int), aa S, B o (j:Int), aa S] ?hf bp (by kernel_rfl) rfl fun l hst=> ?_;case hf=>simp only[aT,a6,bd,ba,bc];exact rfl
    have N:=R hst;have a:=hst;obtain⟨c,g,b8,dk,br,bs,bt,y,ap,ak,z,aI,aL,aM,aN,aP,aW⟩:=rQ a c g b8 dk br bs bt y ap ak z aI aL aM aN aP aW;constructor
    ·iterate 16 refine⟨?_,fun K s=> ?_⟩
     ·trivial
     all_goals try (go_simp;exact s _ N.out;done)
     ·have bG:=dp.out l a
      go_simp;exact s _ N.out
     go_simp;exact aw (de.out _) fun wc A=>s _ (ax a A)
    have bO:=bm.trans (a.mono bm.size);have bQ:=bP.trans (a.mono bP.size);obtain⟨a4,rfl⟩:=ai l
    go_wp2_with fail
    have cg:=aQ a4 (Y #[B o m.1, B o m.2.1, B o m.2.2.1, B o m.2.2.2.1, B o m.2.2.2.2.1, B o m.2.2.2.2.2] 64);have a8:=aV a4 (Y #[B o m.1, B o m.2.1, B o m.2.2.1, B o m.2.2.2.1, B o m.2.2.2.2.1, B o m.2.2.2.2.2] 64);obtain⟨c,g,dk,y,ap,ak,z⟩:=kD a8 c g dk y ap ak z;have a0:=bO.trans (a8.mono bO.size);have be:=bQ.trans (a8.mono bQ.size);have bZ:=R (fK.one cg);clear cg aI aL aM aN aP aW b8 br bs bt a a8;generalize a4.alloc (Y #[B o m.1, B o m.2.1, B o m.2.2.1, B o m.2.2.2.1, B o m.2.2.2.2.1, B o m.2.2.2.2.2] 64)=w10 at c g dk y ap ak z a0 be bZ |-;have c6:=dv.out.below a0;have bG:∀W':ac,Below w10.heap.size w10 W'->(Instr.lookup 71 (.map (D bg)) (bS E) Q).run aj W'= .ok (B o ((aU E).getD 0)) W':=fun W' b6=>(c6.d9.below b6 c6.d9.lt).gZ ea.out
    obtain⟨KD,cO⟩:=ai ((aU E).getD 0);rw[<-cO] at bG;have dJ:C E=au (KD=0):=by rw[d6.out,cO];rfl
    obtain⟨dg,dq⟩:=aY dJ bG;clear cO dJ bG c6;by_cases bU:KD=0
    ·have eq:(KD !=0)=Q:=by simpa using bU
     have cD:=R bU;clear bU;refine bW (fin:= ?z5) [aa S, aa S, ad (D ⟨ar,0,F⟩), ad (D ⟨ar,0,F⟩), ad (D ⟨ar,0,F⟩), ad (D ⟨aA,0,F⟩), ad (D ⟨aA,0,F⟩), ad (D ⟨aA,6,F⟩), .map (D bg),bS E, B o KD, aa Q, aa Q] ?hf bp (by kernel_rfl) rfl fun l hst=> ?_;case hf=>simp only[aT,a6,bd,ba,bc];exact rfl
     have N:=R hst;have a:=hst;obtain⟨c,g,dk,y,ap,ak,z⟩:=kD a c g dk y ap ak z;constructor
     ·iterate 13 refine⟨?_,fun K s=> ?_⟩
      ·trivial
      all_goals try (go_simp;exact s _ N.out;done)
      have bG:=dq.out l a;go_simp;exact s _ N.out
     have b7:=a0.trans (a.mono a0.size);have bB:=be.trans (a.mono be.size);have bN:=R (bZ.out.below a);obtain⟨bI,rfl⟩:=ai l;clear a;have b9:C E=S:=by rw[dg.out];exact decide_eq_true cD.out
     have a2:kF L C i k m=m:=by rw[J.out];unfold mj;rw[if_pos b9]
     obtain⟨G,bH⟩:∃G,G=m:=⟨_,rfl⟩;have a2:kF L C i k m=G:=a2.trans bH.symm;have bY:=R a2;have bw:=bN;rw[<-bH] at bw;obtain⟨ez,rfl⟩:=ai bI;have bh:=b7;have bR:=bB;clear b9 a2 bH y ap ak z dk
     go_wp2_with fail
     obtain⟨ej,et,M,bx,cd,em,T,ab,ag,an,ao,av⟩:=Rd.mp (by rw[bL.out];exact cF.out) (show j < ms.length by rw[bL.out];exact dL);injection bx with bx
     injection bx with ap ak _
     subst ap ak;obtain⟨T,ab,ag,an,ao,av⟩:=jf bh T ab ag an ao av;obtain⟨az,aB,aC,aD,aE,aF⟩:=bw.out.kZ;have ep:(j:Int) < (L.length:Int):=by omega
     have eo:(0:Int)<=(j:Int):=by omega
     have er:=fun w=>oh M G w;have cb:ms.getD j zeroV=M:=by rw[cf,cd];rfl
     have bX:=R cb;clear cb cd;by_cases P:M=G
     ·have c7:(!au (M=G))=Q:=by simp[P]
      have bv:=R P;clear P;refine bW (fin:= ?z6) [aa S, aa S, ad (D ⟨ar,0,F⟩), ad (D ⟨ar,0,F⟩), ad (D ⟨ar,1,F⟩), O (D ⟨aZ,a3,F⟩) L.length eX, B o (j:Int), ad (D ⟨aZ,a3+j*6,F⟩),b2 M,b2 G, aa Q, aa Q] ?hf bp (by kernel_rfl) rfl fun l a=> ?_;case hf=>simp only[aT,a6,bd,ba,bc];exact rfl
      have J:=R a;obtain⟨c,g,T,ab,ag,an,ao,av,az,aB,aC,aD,aE,aF⟩:=ox a c g T ab ag an ao av az aB aC aD aE aF;constructor
      ·iterate 12 refine⟨?_,fun K s=> ?_⟩
       ·trivial
       all_goals try (go_simp;exact s _ J.out;done)
      have ay:∀I,I < k+1->fv L C ms i I:=by
       intro I ca;by_cases e:I=k
       ·subst e
        intro dW bq;rw[ck.out] at bq;cases bq
        rw[cj.out,bY.out,bX.out];exact bv.out
       ·exact cA.out I (by omega)
      have bu:=R ay;have a9:=bR.trans (a.mono bR.size);clear ay;go_wp2;go_roundw
      case rel=>exact⟨k+1,by omega,by go_num,bu,a9⟩
      case measure=>simp[intOf];omega
     have c7:(!au (M=G))=S:=by simp[P]
     have bv:=R P;clear P;refine bW (fin:= ?z7) [aa S, aa S, ad (D ⟨ar,0,F⟩), ad (D ⟨ar,0,F⟩), ad (D ⟨ar,1,F⟩), O (D ⟨aZ,a3,F⟩) L.length eX, B o (j:Int), ad (D ⟨aZ,a3+j*6,F⟩),b2 M,b2 G, aa S, aa S] ?hf bp (by kernel_rfl) rfl fun l a=> ?_;case hf=>simp only[aT,a6,bd,ba,bc];exact rfl
     have J:=R a;obtain⟨c,g,T,ab,ag,an,ao,av,az,aB,aC,aD,aE,aF⟩:=ox a c g T ab ag an ao av az aB aC aD aE aF;constructor
     ·iterate 12 refine⟨?_,fun K s=> ?_⟩
      ·trivial
      all_goals try (go_simp;exact s _ J.out;done)
     have c3:¬∀i k,i < L.length->k < 3->fv L C ms i k:=by
      intro h;have h1:=h i k cv bF j ck.out;rw[cj.out,bY.out,bX.out] at h1;exact bv.out h1
     have a9:=bh.trans (a.mono bh.size);go_wp2;go_ret;exact⟨cW (dr.out c3).symm,a9⟩
    have eq:(KD !=0)=S:=by simpa using bU
    have cD:=R bU;clear bU;refine bW (fin:= ?z8) [aa S, aa S, ad (D ⟨ar,0,F⟩), ad (D ⟨ar,0,F⟩), ad (D ⟨ar,0,F⟩), ad (D ⟨aA,0,F⟩), ad (D ⟨aA,0,F⟩), ad (D ⟨aA,6,F⟩), .map (D bg),bS E, B o KD, aa S, aa S] ?hf bp (by kernel_rfl) rfl fun l hst=> ?_;case hf=>simp only[aT,a6,bd,ba,bc];exact rfl
    have N:=R hst;have a:=hst;obtain⟨c,g,dk,y,ap,ak,z⟩:=kD a c g dk y ap ak z;constructor
    ·iterate 13 refine⟨?_,fun K s=> ?_⟩
     ·trivial
     all_goals try (go_simp;exact s _ N.out;done)
     have bG:=dq.out l a;go_simp;exact s _ N.out
    have b7:=a0.trans (a.mono a0.size);have bB:=be.trans (a.mono be.size);have bN:=R (bZ.out.below a);obtain⟨bI,rfl⟩:=ai l;clear a;have b9:C E=Q:=by rw[dg.out];exact decide_eq_false cD.out
    have a2:kF L C i k m=jz (fE (gY E) (h7 E)) m:=by rw[J.out];unfold mj;rw[b9];rfl
    have c8:=ue E;have hc:=ud dj.out;have cu:=tA c8.1 c8.2 hc.1 hc.2;have cI:=fun(W':ac)=>Aj E W' dj.out;obtain⟨c9,cZ⟩:=ai (gY E);obtain⟨da,cy⟩:=ai (h7 E);rw[<-cZ,<-cy] at a2 cu;rw[<-cZ,<-cy] at cI;rw[<-cy] at hc;have cK:=fun(W':ac)=>ut c9 da W' (by omega) (by omega);obtain⟨a5,dC⟩:=ai (fE c9 da);rw[<-dC] at cK a2 cu;have dy:=fun(W':ac)=>sB a5.1 a5.2.1 a5.2.2.1 a5.2.2.2.1 a5.2.2.2.2.1 a5.2.2.2.2.2 m.1 m.2.1 m.2.2.1 m.2.2.2.1 m.2.2.2.2.1 m.2.2.2.2.2 W' (gA cu (by decide)) (gA d7.out (by decide));obtain⟨G,bH⟩:∃G,G=jz a5 m:=⟨_,rfl⟩;have dz:∀W':ac,Calls aj 18 #[b2 a5,b2 m] W' fun ek Z=>ek= .returned (b2 G)/\Below W'.heap.size W' Z:=fun W'=>by rw[bH];exact dy W'
    rw[<-bH] at a2;obtain⟨d3,d4,d2,bY⟩:=df cI cK dz a2;clear b9 a2 c8 hc cu cI cK dy dz cZ cy dC bH
    go_wp2_with fail
    refine mb (fin:= ?z9) [5] [4,2,3,1,0] [S,S,S,S,S,Q] [Q,Q,Q,Q,Q,Q] (fun x=> [bS E,mD c9 da,b2 a5,b2 m,b2 G,(x 0)]) (fun j _ l=>match j with | 0=>l.cell? ⟨ar,0,F⟩=D (ad (D ⟨aA,0,F⟩))/\l.cell? ⟨ar,1,F⟩=D (O (D ⟨aZ,a3,F⟩) L.length eX)/\l.cell? ⟨aH.heap.size,0,F⟩=D (B o E.1)/\l.cell? ⟨aH.heap.size,1,F⟩=D (B o E.2.1)/\l.cell? ⟨aH.heap.size,2,F⟩=D (B o E.2.2.1)/\l.cell? ⟨aH.heap.size,3,F⟩=D (B o E.2.2.2)/\Below bI.heap.size bI l | _=>∃a7:ac,(a7.cell? ⟨ar,0,F⟩=D (ad (D ⟨aA,0,F⟩))/\a7.cell? ⟨ar,1,F⟩=D (O (D ⟨aZ,a3,F⟩) L.length eX)/\a7.cell? ⟨aH.heap.size,0,F⟩=D (B o E.1)/\a7.cell? ⟨aH.heap.size,1,F⟩=D (B o E.2.1)/\a7.cell? ⟨aH.heap.size,2,F⟩=D (B o E.2.2.1)/\a7.cell? ⟨aH.heap.size,3,F⟩=D (B o E.2.2.2)/\Below bI.heap.size bI a7)/\l=jh a7 a4.heap.size 0 G) ?hf (by kernel_rfl) (by kernel_rfl) (fun _=>rfl) (by kernel_rfl) ?hv ⟨c,g,y,ap,ak,z,aX.drew⟩ (fun x l hst=> ?cB) ?aK ?bi (fun x l hst=> ?he)
    case hf=>intro x;simp only[aT,a6,bd,ba,bc];exact rfl
    case hv=>
     intro x j t v h;cases j with
     | zero=>cases h;rfl
     | succ j=>simp at h
    case cB=>
     have J:=R hst;obtain⟨c,g,y,ap,ak,z,a⟩:=hst;iterate 5 refine⟨?_,fun K s=> ?_⟩
     ·trivial
     all_goals try (go_simp;exact s _ J.out;done)
     ·go_simp
      exact aw (d2.out _) fun wc A=>s _ ⟨V c A,V g A,V y A,V ap A,V ak A,V z A,ax a A⟩
     ·have ch:=bN.out.below a
      obtain⟨az,aB,aC,aD,aE,aF⟩:=ch.kZ;go_simp;exact s _ J.out
     ·go_simp
      exact aw (d4.out _) fun wc A=>s _ ⟨V c A,V g A,V y A,V ap A,V ak A,V z A,ax a A⟩
     go_simp;exact aw (d3.out _) fun wc A=>s _ ⟨V c A,V g A,V y A,V ap A,V ak A,V z A,ax a A⟩
    case aK=>intro j x l _ _ _;trivial
    case bi=>
     intro j t x l ht hst af cz K s;obtain rfl:j=0:=by cases j with | zero=>rfl | succ j=>simp at ht
     cases ht;cases cz
     have J:=R hst;obtain⟨c,g,y,ap,ak,z,a⟩:=hst;have ch:=bN.out.below a;obtain⟨az,aB,aC,aD,aE,aF⟩:=ch.kZ;have eu:=ch.eu;have eL:=am (show l.heap[a4.heap.size]? =_ from ch);go_simp;exact s U _ ⟨_,J.out,rfl⟩
    obtain⟨a7,hst,dD⟩:=hst;obtain⟨c,g,y,ap,ak,z,a⟩:=hst;have dN:=bN.out.below a;have bw:=R (dN.set 0 G);have dG:=b7.trans (a.mono b7.size);have dH:=bB.trans (a.mono bB.size);have bh:=pQ dG bO.size 0 G;have bR:=pQ dH bQ.size 0 G;have cl:=R (eg.out.below bh);rw[<-dD] at bw bh bR cl;have bw:Hid (fK l a4.heap.size [G]):=bw;obtain⟨ez,rfl⟩:=ai l;have c:=cl.out.a1;have g:=cl.out.c1;clear dN dG dH dD a y ap ak z bN cl
    go_wp2_with fail
    obtain⟨ej,et,M,bx,cd,em,T,ab,ag,an,ao,av⟩:=Rd.mp (by rw[bL.out];exact cF.out) (show j < ms.length by rw[bL.out];exact dL);injection bx with bx
    injection bx with ap ak _
    subst ap ak;obtain⟨T,ab,ag,an,ao,av⟩:=jf bh T ab ag an ao av;obtain⟨az,aB,aC,aD,aE,aF⟩:=bw.out.kZ;have ep:(j:Int) < (L.length:Int):=by omega
    have eo:(0:Int)<=(j:Int):=by omega
    have er:=fun w=>oh M G w;have cb:ms.getD j zeroV=M:=by rw[cf,cd];rfl
    have bX:=R cb;clear cb cd;by_cases P:M=G
    ·have c7:(!au (M=G))=Q:=by simp[P]
     have bv:=R P;clear P;refine bW (fin:= ?z10) [aa S, aa S, ad (D ⟨ar,0,F⟩), ad (D ⟨ar,0,F⟩), ad (D ⟨ar,1,F⟩), O (D ⟨aZ,a3,F⟩) L.length eX, B o (j:Int), ad (D ⟨aZ,a3+j*6,F⟩),b2 M,b2 G, aa Q, aa Q] ?hf bp (by kernel_rfl) rfl fun l a=> ?_;case hf=>simp only[aT,a6,bd,ba,bc];exact rfl
     have J:=R a;obtain⟨c,g,T,ab,ag,an,ao,av,az,aB,aC,aD,aE,aF⟩:=ox a c g T ab ag an ao av az aB aC aD aE aF;constructor
     ·iterate 12 refine⟨?_,fun K s=> ?_⟩
      ·trivial
      all_goals try (go_simp;exact s _ J.out;done)
     have ay:∀I,I < k+1->fv L C ms i I:=by
      intro I ca;by_cases e:I=k
      ·subst e
       intro dW bq;rw[ck.out] at bq;cases bq
       rw[cj.out,bY.out,bX.out];exact bv.out
      ·exact cA.out I (by omega)
     have bu:=R ay;have a9:=bR.trans (a.mono bR.size);clear ay;go_wp2;go_roundw
     case rel=>exact⟨k+1,by omega,by go_num,bu,a9⟩
     case measure=>simp[intOf];omega
    have c7:(!au (M=G))=S:=by simp[P]
    have bv:=R P;clear P;refine bW (fin:= ?z11) [aa S, aa S, ad (D ⟨ar,0,F⟩), ad (D ⟨ar,0,F⟩), ad (D ⟨ar,1,F⟩), O (D ⟨aZ,a3,F⟩) L.length eX, B o (j:Int), ad (D ⟨aZ,a3+j*6,F⟩),b2 M,b2 G, aa S, aa S] ?hf bp (by kernel_rfl) rfl fun l a=> ?_;case hf=>simp only[aT,a6,bd,ba,bc];exact rfl
    have J:=R a;obtain⟨c,g,T,ab,ag,an,ao,av,az,aB,aC,aD,aE,aF⟩:=ox a c g T ab ag an ao av az aB aC aD aE aF;constructor
    ·iterate 12 refine⟨?_,fun K s=> ?_⟩
     ·trivial
     all_goals try (go_simp;exact s _ J.out;done)
    have c3:¬∀i k,i < L.length->k < 3->fv L C ms i k:=by
     intro h;have h1:=h i k cv bF j ck.out;rw[cj.out,bY.out,bX.out] at h1;exact bv.out h1
    have a9:=bh.trans (a.mono bh.size);go_wp2;go_ret;exact⟨cW (dr.out c3).symm,a9⟩
  obtain rfl:k=3:=by omega
  have ay:∀bj k,bj < i+1->k < 3->fv L C ms bj k:=by
   intro bj k eG ca;by_cases e:bj=i
   ·subst e
    exact cA.out k ca
   ·exact dU.out bj k (by omega) ca
  have bu:=R ay;clear ay;go_wp2;go_roundw
  case rel=>exact⟨i+1,by omega,by go_num,bu,ct⟩
  case measure=>simp[intOf];omega
 obtain rfl:i=L.length:=by omega
 go_wp2;go_ret;exact⟨cW (eh.out fun i k al dM=>dU.out i k al dM).symm,bT⟩
end
section
set_option maxRecDepth 100000
open Go.RowKit Go.Maps
variable {H W:Int}{cs:List bw}{mask:List Int}{sts:List aP}{ms:List aR}
structure wI(w:ac)(ar:Nat)(W H:Int)(mask:List Int)(cs:List bw)(ms:List aR)(sts:List aP)(ah:ac)(aA bz bg g E dc aF aJ bN cm:Nat)(aS bD bJ aC:ae)(Z:ac):Prop where
 x5:W=((g:Nat):Int)/\H=((E:Nat):Int)/\(1<=g/\g<=8)/\(1<=E/\E<=8)/\mask.length=g*E
 b6:iz W H mask cs ms sts
 cj:eE ah aA bz bg g E aS bD bJ (bG g mask) dc cs.length (fY cs)
 own:ah.ownsRow w.heap.size 53 3 bJ (bG g mask).length (bn (bG g mask))
 map:ah.ownsRow w.heap.size 64 6 (O (D ⟨bN,0,F⟩) (bG g mask).length cm) (bG g mask).length (b5 ms)
 at_:ah.ownsRow w.heap.size 53 3 aC (bG g mask).length (bn (d6 (bG g mask) ms))
 cb:da ah Z aF aJ
 bel:Below w.heap.size w ah
 t8:qA ah aA (O (D ⟨bN,0,F⟩) (bG g mask).length cm) aC (bG g mask) sts ar aF aJ Z
 lw:∃cs,ah.heap[aF]? =D (.cells cs 3 (0,0))
 pw:∃eT c,ah.heap[aJ]? =D (.map eT c)
 e6:aA≠aF/\aA≠aJ/\bz≠aF/\bz≠aJ/\bg≠aF/\bg≠aJ/\w.heap.size<=aF/\w.heap.size<=aJ/\w.heap.size<=bg
 sep:w.heap.size<=ar/\∃k,(∀b,bJ.ownBlock=D b->b < k)/\∀b,aC.ownBlock=D b->k<=b
def oR(w:ac)(ar:Nat)(aS bD:ae)(W H:Int)(mask:List Int)(cs:List bw)(ms:List aR)(sts:List aP)(Z:ac):Prop:=
 ∃ah aA bz bg g E dc aF aJ bN cm bJ aC,wI w ar W H mask cs ms sts ah aA bz bg g E dc aF aJ bN cm aS bD bJ aC Z
open Classical in
noncomputable def g7(W H:Int)(mask:List Int)(cs:List bw)(ms:List aR)(sts:List aP):Bool:=au (iz W H mask cs ms sts)
theorem vG(h:iz W H mask cs ms sts):g7 W H mask cs ms sts=S:=@decide_eq_true _ (ic _) h
theorem nu(h:¬iz W H mask cs ms sts):g7 W H mask cs ms sts=Q:=@decide_eq_false _ (ic _) h
theorem CF:g7 W H mask cs ms sts=S↔iz W H mask cs ms sts:=@decide_eq_true_iff _ (ic _)
theorem rF(W H:Int)(Am Ac Ap As:Option Addr)(nm cm nc cc np cp ns cS:Nat)(mask:List Int)(cs:List bw)(ms:List aR)(sts:List aP)(w:ac)(c2:Steps w)(aZ:Rd w 1 Am nm (bF mask))(hc:Rd w 5 Ac nc (cr cs))(cY:Rd w 6 Ap np (b5 ms))(hst:en w As ns sts)
  (hnm:nm<=140737488351232) (hnc:nc<=140737488351232) (hnp:np<=140737488351232):
  Calls aj 13 #[aq #[B o W, B o H, O Am nm cm, O Ac nc cc, O Ap np cp, O As ns cS]] w fun e Z=>Below w.heap.size w Z/\
   ((g7 W H mask cs ms sts=Q/\∃v,e= .returned (.tuple #[ad v, aa Q]))∨(g7 W H mask cs ms sts=S/\∃ar,e= .returned (.tuple #[ad (D ⟨ar,0,F⟩), aa S])/\oR w ar (O Am nm cm) (O Ac nc cc) W H mask cs ms sts Z)):=by
 have c5:=aQ w (Y #[B o W, B o H, O Am nm cm, O Ac nc cc, O Ap np cp, O As ns cS] 29);have aK:=aV w (Y #[B o W, B o H, O Am nm cm, O Ac nc cc, O Ap np cp, O As ns cS] 29);obtain⟨a0,ao,a2,dS,N,M⟩:=cx c5;have dU:=A3 W H Am Ac nm cm nc cc mask cs (w.alloc (Y #[B o W, B o H, O Am nm cm, O Ac nc cc, O Ap np cp, O As ns cS] 29)) (c2.below aK) (aZ.below aK) (hc.below aK) hnm hnc;have ed:np=ms.length:=by
  have:=cY.1;rw[l4] at this;omega
 obtain⟨dI,b3,du,dC,G,dm,e4⟩:=kp ed dU (c2.below aK) (cY.below aK) hst aK c5;clear dU c2 aZ hc cY hst c5 aK ed;go_in
 go_wp2_with fail
 refine b3.out.mono ?_;rintro e fo ⟨an,⟨hF,v,rfl⟩ | ⟨bi,g,E,aA,b0,bz,bg,dc,bJ,rfl,rfl,hW,cJ,cV,rfl,be⟩⟩
 ·have dy:=R (ax dm.out an)
  have aB:=R (nu (W:=W) (H:=H) (mask:=mask) (cs:=cs) (ms:=ms) (sts:=sts) (fun h=>by have:=h.lf;rw[hF] at this;cases this));replace N:=V N an;clear an hF b3 a0 ao a2 dS M
  go_wp2_with fail
  refine bW (fin:= ?bq) [aa Q, aa S, aa S,U,U,U,U,U,U,U,U,U, aa S] ?hf bp (by kernel_rfl) rfl fun aW A=> ?_;case hf=>simp only[aT,a6,bd,ba,bc];exact rfl
  have G:=R A;have N:=V N A;constructor
  ·iterate 13 refine⟨?_,fun K z=> ?_⟩
   ·trivial
   iterate 13 (go_simp;exact z _ G.out)
  have es:=R (ax dy.out A);clear A N dy;go_wp2;exact cT (v:= .tuple #[ad F, aa Q]) (by simp[results,Tryz.results13,go_sem]) rfl ⟨es.out, .inl ⟨aB.out,_,rfl⟩⟩
 have dZ:=ax dm.out an;have cK:∀t ∈ bG g mask,eD t:=fun t ht=>by
  have:=lg (by omega) cV ht;exact⟨by omega,by omega,this.2.2.2.2⟩
 have bj:(bG g mask).length<=1000:=by
  have h1:=ny g mask;have ab:g*E<=8*8:=Nat.mul_le_mul hW.2 cJ.2;omega
 have a8:0 < (bG g mask).length:=by
  have h1:=bi;unfold fu at h1;simp only[Bool.and_eq_true] at h1;have ab:=h1.2.2;rw[show((g:Int)).toNat=g by omega] at ab
  cases av:bG g mask with
  | nil=>rw[av] at ab;simp[gc] at ab
  | cons a l=>simp
 have d4:n7 (fY cs)=fr Q cs:=yk (py bi);replace N:=V N an;replace M:=V M an;obtain⟨dP,dE,dq,dA⟩:=df (du.out.below an) (dC.out.below an) dZ (And.intro hW (And.intro cJ (And.intro cV bi)));obtain⟨L,a9⟩:=ai (bG g mask);rw[<-a9] at be cK bj a8;have bQ:=be.cj;rw[List.take_length] at bQ;have cX:=be.own;obtain⟨aO,dO,dL⟩:=cq a9 bQ cX;have eW:=be.pg;obtain⟨bX,dx,e1,fb⟩:∃bX dx,bJ= O bX L.length dx/\L.length<=dx:=by obtain⟨eq,c1,h1,ab,_⟩:=dd cX;exact⟨eq,c1,h1,ab⟩
 subst e1;have bC:=bQ.bC;obtain⟨cz,eu⟩:=aY cK d4;have ag:=an.size;obtain⟨bB,cO⟩:∃b,((np:Int) !=(L.length:Int))=b:=⟨_,rfl⟩;have cw:=R cO;clear an dZ bi cK be bQ cX b3 a9 du a0 ao a2 dS cV hW cJ d4 dC cO
 go_wp2_with fail
 refine bW (fin:= ?br) [aa S, aa Q, aa Q, ad (D ⟨w.heap.size,4,F⟩), O Ap np cp, B o (np:Int), ad (D ⟨aA,0,F⟩), ad (D ⟨aA,0,F⟩), ad (D ⟨aA,4,F⟩), O bX L.length dx, B o (L.length:Int), aa bB, aa bB] ?hf bp (by kernel_rfl) rfl fun aW hst=> ?_;case hf=>simp only[aT,a6,bd,ba,bc];exact rfl
 have cE:=R hst;have A:=hst;have N:=V N A;have bC:=V bC A;constructor
 ·iterate 13 refine⟨?_,fun K z=> ?_⟩
  ·trivial
  ·generalize bB=aN at z |-
   cases aN <;> (go_simp;exact z _ cE.out)
  ·have cO:=cw.out
   (go_simp;exact z _ cE.out)
  iterate 11 (go_simp;exact z _ cE.out)
 replace M:=V M A;obtain⟨cC,bv,dM,bx,bt⟩:=dY (dP.out.below A) (dE.out.below A) (dO.out.below A) (bo dL.out A) (ax dq.out A);have fj:=A.size;obtain⟨el,rfl⟩:=ai aW;clear A dP dE dO dL dq
 cases bB with
 | true=>
  have cW:np≠L.length:=by
   intro e;have h1:=cw.out;rw[e] at h1;simp at h1
  have aB:=R (nu (W:=(g:Int)) (H:=(E:Int)) (mask:=mask) (cs:=cs) (ms:=ms) (sts:=sts) (fun h=>by
   have h1:=h.maps.len;rw[show((g:Int)).toNat=g by omega,<-aO.out] at h1;have:=dI.out;omega))
  clear cW N M bC;go_wp2;exact cT (v:= .tuple #[ad F, aa Q]) (by simp[results,Tryz.results13,go_sem]) rfl ⟨bt.out, .inl ⟨aB.out,_,rfl⟩⟩
 | false=>
  have eY:np=L.length:=by
   have h1:=cw.out;have ab:(np:Int)=(L.length:Int):=by simpa using h1
   omega
  have bk:ms.length=L.length:=by have:=dI.out;omega
  subst eY
  go_wp2_with fail
  go_loopw [31] (fun v wr=>∃i:Nat,i<=L.length/\v= B o i/\Hid (∀j,j < i->i9 L ms j)/\Hid (Below el.heap.size el wr)) (fun v _=>L.length-(intOf v).toNat)
  case atStart=>exact⟨0,by omega,rfl,R (fun j h=>by omega),R aX⟩
  obtain⟨i,al,rfl,bl,P⟩:=hrel;by_cases cQ:i < L.length
  ·obtain⟨dT,ek,m,hA,eb,fa,aN,bm,db,de,dg,dh⟩:=Rd.mp (by rw[bk];exact bv.out) (show i < ms.length by rw[bk];exact cQ)
   subst hA;obtain⟨t,ht⟩:∃t,L[i]? =D t:=⟨_,bb cQ⟩;obtain⟨gt,e7,e9,eZ,_⟩:=dF bx.out (by omega);injection eZ with ap _ e3
   subst ap;subst e3;have az:=P.out;replace aN:=V aN az;replace bm:=V bm az;replace db:=V db az;replace de:=V de az;replace dg:=V dg az;replace dh:=V dh az;have aM:=cz.out t (cH ht);have fe:(i:Int) < (L.length:Int):=by omega
   have fd:(0:Int)<=(i:Int):=by omega
   have cP:ms.getD i zeroV=m:=by rw[cf,eb];rfl
   have dX:bA L ms i=dD m t:=by unfold bA;rw[cP,cf,ht];rfl
   have bE:=fun(h0:bf m=S) (W:ac) (h:Below wr.heap.size wr W)=>rz m.1 m.2.1 m.2.2.1 m.2.2.2.1 m.2.2.2.2.1 m.2.2.2.2.2 t.1 t.2.1 t.2.2 W (cC.out.below (az.trans (h.mono az.size))) (gA (hJ h0) (by omega)) (by have:=aM.1;omega) (by have:=aM.1;omega) (by have:=aM.2.1;omega) (by have:=aM.2.1;omega) aM.2.2.1 aM.2.2.2;obtain⟨T,cM⟩:=ai (dD m t);rw[show h8 m.1 m.2.1 m.2.2.1 m.2.2.2.1 m.2.2.2.2.1 m.2.2.2.2.2 t.1 t.2.1 t.2.2=T from cM.symm] at bE;have aE:i9 L ms i↔bf m=S/\eg T.1 T.2.1 T.2.2=S:=by
    unfold i9 kH;rw[cP,dX,<-cM]
   have cF:=fun W:ac=>uk m.1 m.2.1 m.2.2.1 m.2.2.2.1 m.2.2.2.2.1 m.2.2.2.2.2 W;have cZ:=fun W:ac=>vQ T.1 T.2.1 T.2.2 W;obtain⟨s,cU⟩:=ai (bf m);rw[show bf (m.1,m.2.1,m.2.2.1,m.2.2.2.1,m.2.2.2.2.1,m.2.2.2.2.2)=s from cU.symm] at cF;rw[<-cU] at bE aE;obtain⟨aH,ea⟩:=ai (eg T.1 T.2.1 T.2.2);rw[<-ea] at cZ aE;obtain⟨bZ,bY,b4,aU⟩:=df bE cF cZ aE;replace bC:=V bC az;have e2:=ey (bo bx.out az) ht;obtain⟨a3,a4,a5⟩:=e2;clear bE cF cZ aM dX cM cU ea eb cP aE ht;obtain⟨c9,rfl⟩:=ai wr
   go_wp2_with fail
   have ej:=aQ c9 (Y #[B o m.1, B o m.2.1, B o m.2.2.1, B o m.2.2.2.1, B o m.2.2.2.2.1, B o m.2.2.2.2.2] 64);have ay:=aV c9 (Y #[B o m.1, B o m.2.1, B o m.2.2.1, B o m.2.2.2.1, B o m.2.2.2.2.1, B o m.2.2.2.2.2] 64);obtain⟨bR,bS,bq,bU,br,bV⟩:=cx ej;replace bC:=V bC ay;replace a3:=V a3 ay;replace a4:=V a4 ay;replace a5:=V a5 ay;clear aN bm db de dg dh ej;generalize c9.alloc (Y #[B o m.1, B o m.2.1, B o m.2.2.1, B o m.2.2.2.1, B o m.2.2.2.2.1, B o m.2.2.2.2.2] 64)=c6 at bR bS bq bU br bV bC a3 a4 a5 ay |-;obtain⟨eL,ch⟩:∃y:ae,Hid (y= aa (!s)):=⟨_,R rfl⟩;obtain⟨eM,J⟩:∃y:ae,Hid (y= aa (!s)):=⟨_,R rfl⟩;obtain⟨eN,ci⟩:∃y:ae,Hid (y=(bif s then b2 m else U)):=⟨_,R rfl⟩
   obtain⟨eO,ck⟩:∃y:ae,Hid (y=(bif s then ad (D ⟨aA,0,F⟩) else U)):=⟨_,R rfl⟩;obtain⟨eP,cl⟩:∃y:ae,Hid (y=(bif s then ad (D ⟨aA,0,F⟩) else U)):=⟨_,R rfl⟩;obtain⟨eQ,co⟩:∃y:ae,Hid (y=(bif s then ad (D ⟨aA,4,F⟩) else U)):=⟨_,R rfl⟩;obtain⟨eR,ct⟩:∃y:ae,Hid (y=(bif s then O (D ⟨gt,0,F⟩) L.length dx else U)):=⟨_,R rfl⟩;obtain⟨eS,cu⟩:∃y:ae,Hid (y=(bif s then B o i else U)):=⟨_,R rfl⟩;obtain⟨eF,b7⟩:∃y:ae,Hid (y=(bif s then ad (D ⟨gt,i*3,F⟩) else U)):=⟨_,R rfl⟩;obtain⟨eG,b8⟩:∃y:ae,Hid (y=(bif s then bK t else U)):=⟨_,R rfl⟩;obtain⟨eH,b9⟩:∃y:ae,Hid (y=(bif s then bK T else U)):=⟨_,R rfl⟩
   obtain⟨eI,ca⟩:∃y:ae,Hid (y=(bif s then aa aH else U)):=⟨_,R rfl⟩;obtain⟨eJ,ce⟩:∃y:ae,Hid (y=(bif s then aa (!aH) else U)):=⟨_,R rfl⟩;obtain⟨eK,cg⟩:∃y:ae,Hid (y= aa ((!s) || (!aH))):=⟨_,R rfl⟩;refine bW (fin:= ?z6) [b2 m, aa s,eL,eM,eN,eO,eP,eQ,eR,eS,eF,eG,eH,eI,eJ,eK] ?hf bp (by kernel_rfl) rfl fun aW A=> ?_;case hf=>simp only[aT,a6,bd,ba,bc];exact rfl
   have G:=R A;obtain⟨bR,bS,bq,bU,br,bV,bC,a3,a4,a5⟩:=la A bR bS bq bU br bV bC a3 a4 a5;constructor
   ·iterate 16 refine⟨?_,fun K z=> ?_⟩
    ·trivial
    ·obtain rfl:=cg.out
     obtain rfl:=J.out;obtain rfl:=ce.out;generalize (!aH)=bm at z |-;cases s <;> cases bm <;> (go_simp;exact z _ G.out)
    ·obtain rfl:=ce.out
     obtain rfl:=J.out;obtain rfl:=ca.out;cases s <;> cases aH <;> (go_simp;exact z _ G.out)
    ·obtain rfl:=ca.out
     obtain rfl:=J.out;obtain rfl:=b9.out;cases s <;> first | (go_simp;exact z _ G.out;done) | (go_simp;exact aw (b4.out aW) fun wc bh=>z _ (ax A bh))
    ·obtain rfl:=b9.out
     obtain rfl:=J.out;obtain rfl:=ci.out;obtain rfl:=b8.out;cases s <;> first | (go_simp;exact z _ G.out;done) | (go_simp;exact aw (bZ.out rfl aW (ay.trans (A.mono ay.size))) fun wc bh=>z _ (ax A bh))
    ·obtain rfl:=b8.out
     obtain rfl:=J.out;obtain rfl:=b7.out;cases s <;> (go_simp;exact z _ G.out)
    ·obtain rfl:=b7.out
     obtain rfl:=J.out;obtain rfl:=ct.out;obtain rfl:=cu.out;cases s <;> (go_simp;exact z _ G.out)
    ·obtain rfl:=cu.out
     obtain rfl:=J.out;cases s <;> (go_simp;exact z _ G.out)
    ·obtain rfl:=ct.out
     obtain rfl:=J.out;obtain rfl:=co.out;cases s <;> (go_simp;exact z _ G.out)
    ·obtain rfl:=co.out
     obtain rfl:=J.out;obtain rfl:=cl.out;cases s <;> (go_simp;exact z _ G.out)
    ·obtain rfl:=cl.out
     obtain rfl:=J.out;obtain rfl:=ck.out;cases s <;> (go_simp;exact z _ G.out)
    ·obtain rfl:=ck.out
     obtain rfl:=J.out;cases s <;> (go_simp;exact z _ G.out)
    ·obtain rfl:=ci.out
     obtain rfl:=J.out;cases s <;> (go_simp;exact z _ G.out)
    ·obtain rfl:=J.out
     obtain rfl:=ch.out;generalize (!s)=aN at z |-;cases aN <;> (go_simp;exact z _ G.out)
    ·obtain rfl:=ch.out
     cases s <;> (go_simp;exact z _ G.out)
    ·go_simp;exact aw (bY.out aW) fun wc bh=>z _ (ax A bh)
    ·go_simp;exact z _ G.out
   obtain rfl:=cg.out;clear ch J ci ck cl co ct cu b7 b8 b9 ca ce cg;have d3:=ay.trans (A.mono ay.size);have dz:=R ((P.out).trans (d3.mono P.out.size));clear A ay bR bS bq bU br bV a3 a4 a5 bC d3;by_cases bO:s=S/\aH=S
   ·obtain⟨rfl,rfl⟩:=bO
    have eX:Hid (∀j,j < i+1->i9 L ms j):=R (fun j cR=>by
     by_cases e:j=i
     ·subst e;exact aU.out.2 ⟨rfl,rfl⟩
     ·exact bl.out j (by omega))
    clear aU bZ bY b4 bl;go_wp2;go_roundw
    case rel=>exact⟨i+1,by omega,by go_num,eX,dz⟩
    case measure=>simp[intOf];omega
   have ec:¬i9 L ms i:=fun h=>bO (aU.out.1 h);have eV:(!s || !aH)=S:=by cases s <;> cases aH <;> simp at bO |-
   have aB:=R (nu (W:=(g:Int)) (H:=(E:Int)) (mask:=mask) (cs:=cs) (ms:=ms) (sts:=sts) (fun h=>by
    have h1:=h.maps.may i;rw[show((g:Int)).toNat=g by omega,<-aO.out] at h1;exact ec (h1 cQ)))
   clear aU bZ bY b4 bl ec bO;simp only[eV];go_wp2;exact cT (v:= .tuple #[ad F, aa Q]) (by simp[results,Tryz.results13,go_sem]) rfl ⟨ax bt.out dz.out, .inl ⟨aB.out,_,rfl⟩⟩
  obtain rfl:i=L.length:=by omega
  obtain⟨dT,ek,hA,_,_⟩:=bv.out.2 a8;subst hA;have aE:∀m ∈ ms,bf m=S:=fun m aZ=>by
   obtain⟨j,cR⟩:=List.getElem?_of_mem aZ;have ff:=(bM.1 cR).1;have h1:=(bl.out j (by omega)).1
   rwa [cf,cR] at h1
  have ef:=fun m aZ=>gA (hJ (aE m aZ)) (by omega);replace N:=V N P.out;replace M:=V M P.out;obtain⟨di,dQ,a7,dJ,dt⟩:=dY (xz dT ek L.length cp ms wr (bv.out.below P.out) bj) (cC.out.below P.out) (dM.out.below P.out) (bo bx.out P.out) (ax bt.out P.out);have fk:=P.out.size;obtain⟨aU,eA⟩:=aY aE ef;have fi:=am a7.out.bT;have fh:=a7.out.num.lt;have fg:=a7.out.d9.lt;clear aE ef cC dM bx bt bv P bC;obtain⟨fp,rfl⟩:=ai wr
  go_wp2_with (first
   | (go_at_call 45;refine di.out.mono ?_;rintro r em ⟨v3,rfl,bP,aL⟩;obtain⟨bN,bI,e8,e0,_,_,fc,_⟩:=dF bP a8;subst e0;have c3:=dQ.out.below aL;have c0:=a7.out.below aL;have c4:=bo dJ.out aL;have dp:=BI aA bz bg g E _ _ _ _ L dc _ _ (D ⟨bN,0,F⟩) bI ms em c3 c0 c4 cz.out bj bk (Rd.dB bP) eA.out;have dk:=R dp;have dR:=R c3;have dN:=R c0;have cA:=R c4;have dG:=R bP;have dv:=R (ax dt.out aL);replace M:=V M aL;have fl:=aL.size;clear di c3 c0 c4 dp bP aL dQ a7 dJ dt N)
   | (go_at_call 44;refine dk.out.mono ?_;rintro r ep ⟨ar,aF,aJ,aC,rfl,cL⟩;have aD:=cL.bel;have ez:=R (dR.out.below aD);have cB:=R (dN.out.below aD);have dK:=R (bo cA.out aD);have dH:=R (bo dG.out aD);have dw:=R (ax dv.out aD);replace M:=V M aD;have fm:=aD.size;have I:=R cL;have eC:=R (fun b cN=>(cA.out.lt b cN).2);clear dk dR dN cA dG dv cL aD))
  have bH:=DA ar aA bz bg g E _ aJ _ _ _ aC _ L dc _ _ (D ⟨bN,0,F⟩) bI ms ep ez.out cB.out dK.out cz.out a8 bj bk (Rd.dB dH.out) I.out.cd aU.out;rw[eu.out] at bH;obtain⟨bs,aI⟩:=ai (nC L (fr Q cs) ms);rw[<-aI] at bH;obtain⟨dl,et⟩:=aY bH aI;clear bH aI;obtain⟨e5,eU⟩:=ai (ep);have ei:iz (g:Int) (E:Int) mask cs ms sts↔bs=S/\eo L ms sts:=by
   obtain⟨d1,d2,dV,dW⟩:=dA.out;rw[et.out,Dx];have hW:((g:Int)).toNat=g:=by omega
   constructor
   ·rintro⟨s1,s2,s3⟩
    rw[hW,<-aO.out] at s2 s3;exact⟨s2.ok,s3⟩
   rintro⟨s1,s2⟩;refine⟨dW, ?_, ?_⟩;·rw[hW,<-aO.out];exact⟨bk,bl.out,s1⟩
   ·rw[hW,<-aO.out];exact s2
  have cD:=R ei;clear ei;subst eU
  go_wp2_with (go_at_call 46;refine aw dl.out fun c6 af=> ?_;have ak:=R af;replace M:=V M af;clear dl af)
  ·have aI:bs=S:=by assumption
   have bL:=I.out.ge;have cW:=I.out.ne;have af:=ak.out;have bu:=R (ax dw.out af);have a1:=bo I.out.own af;rw[List.take_of_length_le (by rw[jA];omega)] at a1;have a1:=dn a1 (show w.heap.size<=em.heap.size by simp at ag;omega);have cG:=Ah w ar aA bz bg g E 0 aF aJ (O Am nm cm) (O Ac nc cc) _ aC L dc _ _ (D ⟨bN,0,F⟩) As bI ns cS ms sts c6 (cB.out.below af) ⟨_,_,rfl⟩ a8 bj bu.out G.out (I.out.cd.below af) a1 (aG I.out.c8 af (am I.out.c8)) (I.out.map.stay af) (by simp at ag;omega) (by simp at ag;omega) ⟨by omega,by omega,by omega,by omega⟩;obtain⟨er,cI⟩:=ai (mW L ms sts);rw[<-cI] at cG;obtain⟨dj,dr,ew⟩:=cq cG cI a1;clear cG cI a1 bL cW af;refine dj.out.mono ?_;rintro r c7 ⟨rfl,d5,d8⟩
   obtain⟨cy,ev⟩:=aY d5 d8;clear dj d5 d8
   go_wp2_with fail
   cases er with
   | false=>
    have aB:=R (nu (W:=(g:Int)) (H:=(E:Int)) (mask:=mask) (cs:=cs) (ms:=ms) (sts:=sts) (fun h=>by have h1:=ua (cD.out.1 h).2;rw[<-dr.out] at h1;cases h1));have cv:Below w.heap.size w c7:=by
     have bL:=I.out.ge;have ee:=ak.out.size;exact bu.out.trans (cy.out.out (by simp at ag;omega) (by simp at ag;omega) (by simp at ag;omega))
    exact cT (v:= .tuple #[ad (D ⟨ar,0,F⟩), aa Q]) (by simp[results,Tryz.results13,go_sem]) rfl ⟨cv, .inl ⟨aB.out,_,rfl⟩⟩
   | true=>
    have d7:=Af.1 dr.out.symm;have eh:iz (g:Int) (E:Int) mask cs ms sts:=cD.out.2 ⟨aI,d7⟩;have eB:=R (vG eh);have cv:Below w.heap.size w c7:=by
     have bL:=I.out.ge;have ee:=ak.out.size;exact bu.out.trans (cy.out.out (by simp at ag;omega) (by simp at ag;omega) (by simp at ag;omega))
    have ex:oR w ar (O Am nm cm) (O Ac nc cc) (g:Int) (E:Int) mask cs ms sts c7:=by
     have bL:=I.out.ge;have ee:=ak.out.size;obtain⟨d1,d2,dV,dW⟩:=dA.out;have a9:=aO.out;subst a9;refine⟨c6,aA,bz,bg,g,E,dc,aF,aJ,bN,bI,_,aC,⟨rfl,rfl,d1,d2,dV⟩,eh,cB.out.below ak.out,dn (bo dK.out ak.out) (by simp),dn (bo dH.out ak.out) (by simp at ag;omega),ew.out,cy.out,bu.out,ev.out d7,⟨_,aG I.out.c8 ak.out (am I.out.c8)⟩,(I.out.map.stay ak.out).is, ?_, ?_,_,eC.out,fun b cN=>(I.out.own.lt b cN).1⟩;all_goals simp at ag eW
     rotate_left
     ·omega
     refine⟨by omega,by omega,by omega,by omega,by omega,by omega,by omega,by omega,by omega⟩
    exact cT (v:= .tuple #[ad (D ⟨ar,0,F⟩), aa S]) (by simp[results,Tryz.results13,go_sem]) rfl ⟨cv, .inr ⟨eB.out,_,rfl,ex⟩⟩
  have aI:bs=Q:=by simpa using (show ¬bs=S by assumption)
  have aB:=R (nu (W:=(g:Int)) (H:=(E:Int)) (mask:=mask) (cs:=cs) (ms:=ms) (sts:=sts) (fun h=>by have:=(cD.out.1 h).1;rw[aI] at this;cases this));exact cT (v:= .tuple #[ad (D ⟨ar,0,F⟩), aa Q]) (by simp[results,Tryz.results13,go_sem]) rfl ⟨ax dw.out ak.out, .inl ⟨aB.out,_,rfl⟩⟩
end
section
open Go.Shelf
def Cw:Go.Shelf.Ren:=⟨fun | 6=>61 | 15=>105 | 14=>104 | 28=>130 | 29=>131 | 20=>122 | 21=>123 | 22=>124 | 23=>125 | 24=>126 | 25=>127 | 26=>128 | 27=>129 | 46=>142 | 47=>143 | 48=>144 | 49=>145 | 50=>146 | 57=>158 | n=>n,fun | 22=>22 | 24=>3 | 25=>77 | 3=>3 | 39=>162 | 0=>0 | 53=>185 | 55=>187 | 4=>4 | 46=>179 | 45=>178 | 50=>147 | 5=>5 | 9=>9 | 66=>195 | 70=>199 | 76=>208 | 77=>209 | n=>n,fun | n=>n⟩
theorem Cv:Go.Proofs.SlLaysF.n6 aj Cw:={
 mixed:=by kernel_rfl
 f6:=⟨Tryz.f61.name,by decide,Tryz.func61.trans (congrArg D (by kernel_rfl))⟩
 f14:=⟨Tryz.f104.name,by decide,Tryz.func104.trans (congrArg D (by kernel_rfl))⟩
 f15:=Tryz.func105.trans (congrArg D (by kernel_rfl))
 f20:=⟨Tryz.f122.name,by decide,Tryz.func122.trans (congrArg D (by kernel_rfl))⟩
 f21:=⟨Tryz.f123.name,by decide,Tryz.func123.trans (congrArg D (by kernel_rfl))⟩
 f22:=⟨Tryz.f124.name,by decide,Tryz.func124.trans (congrArg D (by kernel_rfl))⟩
 f23:=⟨Tryz.f125.name,by decide,Tryz.func125.trans (congrArg D (by kernel_rfl))⟩
 f24:=⟨Tryz.f126.name,by decide,Tryz.func126.trans (congrArg D (by kernel_rfl))⟩
 f25:=⟨Tryz.f127.name,by decide,Tryz.func127.trans (congrArg D (by kernel_rfl))⟩
 f26:=⟨Tryz.f128.name,by decide,Tryz.func128.trans (congrArg D (by kernel_rfl))⟩
 f27:=⟨Tryz.f129.name,by decide,Tryz.func129.trans (congrArg D (by kernel_rfl))⟩
 f28:=Tryz.func130.trans (congrArg D (by kernel_rfl))
 f29:=Tryz.func131.trans (congrArg D (by kernel_rfl))
 f46:=⟨Tryz.f142.name,by decide,Tryz.func142.trans (congrArg D (by kernel_rfl))⟩
 f47:=Tryz.func143.trans (congrArg D (by kernel_rfl))
 f48:=Tryz.func144.trans (congrArg D (by kernel_rfl))
 f49:=⟨Tryz.f145.name,by decide,Tryz.func145.trans (congrArg D (by kernel_rfl))⟩
 f50:=⟨Tryz.f146.name,by decide,Tryz.func146.trans (congrArg D (by kernel_rfl))⟩
 f57:=⟨Tryz.f158.name,by decide,Tryz.func158.trans (congrArg D (by kernel_rfl))⟩
 t0:=Tryz.underlying0
 a0:=Tryz.isAgg0
 z0:=Tryz.sizeOf0
 v0:=Tryz.zeroValue0
 t3:=Tryz.underlying3
 a3:=Tryz.isAgg3
 z3:=Tryz.sizeOf3
 v3:=Tryz.zeroValue3
 t4:=Tryz.underlying4
 a4:=Tryz.isAgg4
 z4:=Tryz.sizeOf4
 v4:=Tryz.zeroValue4
 t5:=Tryz.underlying5
 a5:=Tryz.isAgg5
 z5:=Tryz.sizeOf5
 v5:=Tryz.zeroValue5
 t9:=Tryz.underlying9
 a9:=Tryz.isAgg9
 z9:=Tryz.sizeOf9
 v9:=Tryz.zeroValue9
 t22:=Tryz.underlying22
 a22:=Tryz.isAgg22
 z22:=Tryz.sizeOf22
 v22:=Tryz.zeroValue22
 a24:=Tryz.isAgg3
 z24:=Tryz.sizeOf3
 t25:=Tryz.underlying77
 a25:=Tryz.isAgg77
 z25:=Tryz.sizeOf77
 v25:=Tryz.zeroValue77
 t39:=Tryz.underlying162
 a39:=Tryz.isAgg162
 z39:=Tryz.sizeOf162
 v39:=Tryz.zeroValue162
 t45:=Tryz.underlying178
 a45:=Tryz.isAgg178
 z45:=Tryz.sizeOf178
 v45:=Tryz.zeroValue178
 t46:=Tryz.underlying179
 a46:=Tryz.isAgg179
 z46:=Tryz.sizeOf179
 v46:=Tryz.zeroValue179
 t50:=Tryz.underlying147
 a50:=Tryz.isAgg147
 z50:=Tryz.sizeOf147
 v50:=Tryz.zeroValue147
 t53:=Tryz.underlying185
 a53:=Tryz.isAgg185
 z53:=Tryz.sizeOf185
 v53:=Tryz.zeroValue185
 t55:=Tryz.underlying187
 a55:=Tryz.isAgg187
 z55:=Tryz.sizeOf187
 v55:=Tryz.zeroValue187
 t66:=Tryz.underlying195
 a66:=Tryz.isAgg195
 z66:=Tryz.sizeOf195
 v66:=Tryz.zeroValue195
 t70:=Tryz.underlying199
 a70:=Tryz.isAgg199
 z70:=Tryz.sizeOf199
 v70:=Tryz.zeroValue199
 t76:=Tryz.underlying208
 a76:=Tryz.isAgg208
 z76:=Tryz.sizeOf208
 v76:=Tryz.zeroValue208
 t77:=Tryz.underlying209
 a77:=Tryz.isAgg209
 z77:=Tryz.sizeOf209
 v77:=Tryz.zeroValue209}
end
section
open Go.RowKit Go.Sort Go.Shelf
def encI(i:Nat):ae:= B o ((i:Nat):Int)
end
section
open Go.RowKit Go.Maps Go.Sort
def eY(bh:List ah)(i:Nat)(x:ah):List Nat:=(List.range i).filter fun j=>au (bh[j]? =D x)
theorem k3{bh:List ah}{i j:Nat}{x:ah}:j ∈ eY bh i x↔j < i/\bh[j]? =D x:=by
 unfold eY;simp
theorem yA(bh:List ah)(i:Nat)(x:ah):(eY bh i x).Nodup:=List.nodup_range.filter _
theorem q9(bh:List ah)(i:Nat)(x:ah):(eY bh i x).length<=i:=by
 have:=List.length_filter_le (fun j=>au (bh[j]? =D x)) (List.range i);rw[List.length_range] at this;exact this
theorem yB{bh:List ah}{i:Nat}{a:ah}(h:bh[i]? =D a):eY bh (i+1)=fun x=>if x=a then eY bh i a++ [i] else eY bh i x:=by
 funext x
 unfold eY;rw[List.range_succ,List.filter_append];by_cases e:x=a
 ·subst e
  rw[if_pos rfl];simp[h]
 rw[if_neg e];have:¬a=x:=fun h=>e h.symm;simp[h,this]
theorem sJ{aw aN ax ay:ac}{aJ:Nat}{v a8:ae}(al:aw.grownBy aN (D aJ))(ab:fm aN ax v a8)(aH:ax.grownBy ay (D aJ)){b:Nat}{af:Obj}(y:aw.heap[b]? =D af)(h1:b≠aJ)(ag:v.ownBlock≠D b):ay.heap[b]? =D af:=by
 have ao:=(al.block b (am y) (fun e=>h1 (cn e))).trans y;have a2:=(ab.grown.block b (am ao) (fun e=>ag e.symm)).trans ao;exact(aH.block b (am a2) (fun e=>h1 (cn e))).trans a2
structure kd(w:ac)(aA:Nat)(aS E I:ae)(bh:List ah)(aL:List Nat)(ar aF aJ i:Nat)(wr:ac):Prop where
 cd:dP wr ar aA aS E I aJ
 c8:wr.heap[aF]? =D (Y (di aL).toArray 3 (0,0))
 map:∃(n:Nat) (f:ah->Option ae),n<=i/\eT wr w.heap.size aJ n f (eY bh i)
 cb:da w wr aF ar
section
variable {w wr Z aw aN ax ay:ac} {aA:Nat} {aS E I:ae} {bh:List ah} {aL:List Nat} {ar aF aJ i:Nat}
theorem kd.below(h:kd w aA aS E I bh aL ar aF aJ i wr)(y:Below wr.heap.size wr Z):kd w aA aS E I bh aL ar aF aJ i Z:=by
 obtain⟨n,f,bj,bk⟩:=h.map;exact⟨h.cd.below y,aG h.c8 y (am h.c8),⟨n,f,bj,bk.below y⟩,h.cb.below y⟩
theorem kd.rJ(h:kd w aA aS E I bh aL ar aF aJ i aw){n:Nat}{f:ah->Option ae}(hn:n<=i)(aD:eT aw w.heap.size aJ n f (eY bh i))(al:aw.grownBy aN (D aJ)){a:ah}{a8:ae}(aK:fm aN ax ((f a).getD (O F 0 0)) a8)
  (aW:ax.ownsRow w.heap.size 3 1 a8 ((eY bh i a).length+1) (di (eY bh i a++ [i]))) (a7:cY iN ay aJ (n+1) (it f a a8)) (aH:ax.grownBy ay (D aJ)) (ai:bh[i]? =D a)
  (a0:ar < w.heap.size) (aU:aF < w.heap.size) (aY:w.heap.size<=aJ):kd w aA aS E I bh aL ar aF aJ (i+1) ay:=by
 have J:=aD.val a;have aZ:∀b,b < w.heap.size->((f a).getD (O F 0 0)).ownBlock≠D b:=fun b y e=>by
  have:=(J.lt b e).1;omega
 have bn:=h.cb.size;have bo:=al.size;refine⟨sJ al aK aH h.cd (by omega) (aZ _ a0),sJ al aK aH h.c8 (by omega) (aZ _ aU),⟨n+1,it f a a8,by omega, ?_⟩,((h.cb.grown al ?_).grown aK.grown ?_).grown aH ?_⟩
 ·rw[yB ai]
  refine aD.put al aW aK.grown ?_ a7 aH (fun t v J=>eN (aD.row t v J).1 aD.map.is) (fun e=> ?_)
  ·rcases aK.at_ with h1 | ⟨g,h1,ab⟩
   ·exact .inl h1
   ·exact .inr ⟨g,h1,by omega⟩
  have a9:=aD.map.is;rcases aK.at_ with h1 | ⟨g,h1,ab⟩
  ·rw[h1] at e
   exact eN J a9 e
  rw[h1] at e;have:=aD.map.lt;have:=cn e;omega
 ·intro b y;cases y;exact .inr (.inr aY)
 ·intro b y
  exact .inr (.inr (J.lt b y).1)
 ·intro b y;cases y;exact .inr (.inr aY)
end
def oP(G:ah->List Nat)(aM:ah->Prop)(a:ah)(h:Nat)(A:List Nat):Prop:=(∀(x:ah),aM x->∀(p j:Nat),(G x)[p]? =D j->A[j]? =D p)/\∀(p j:Nat),p < h->(G a)[p]? =D j->A[j]? =D p
theorem oP.step{G:ah->List Nat}{bh:List ah}{aM:ah->Prop}{a:ah}{h j:Nat}{A:List Nat}(av:oP G aM a h A)(aC:∀x,(G x).Perm (eY bh bh.length x))(ai:¬aM a)(K:(G a)[h]? =D j)(hn:A.length=bh.length):oP G aM a (h+1) (A.set j h):=by
 have aX:=(k3.1 ((aC a).mem_iff.1 (cH K)));refine⟨fun x s p k an=> ?_,fun p k V an=> ?_⟩
 ·have a5:=(k3.1 ((aC x).mem_iff.1 (cH an)))
  have ap:j≠k:=fun e=>by
   rw[e,a5.2] at aX;exact ai (cn aX.2▸s)
  rw[List.getElem?_set_ne ap];exact av.1 x s p k an
 by_cases e:p=h
 ·subst e
  rw[K] at an;cases an
  rw[List.getElem?_set_self (by omega)]
 have be:p < h:=by omega
 have hnd:(G a).Nodup:=(aC a).nodup_iff.2 (yA _ _ _);have ap:j≠k:=fun ak=>by
  subst ak;obtain⟨h1,ab⟩:=bM.1 an;obtain⟨ag,az⟩:=bM.1 K;exact(List.pairwise_iff_getElem.1 hnd) p h h1 ag be (ab.trans az.symm)
 rw[List.getElem?_set_ne ap];exact av.2 p k (by omega) an
structure fo(w:ac)(aA:Nat)(aS E I:ae)(bh:List ah)(M:Nat->Nat->Int)(ar aF aJ:Nat)(f:ah->Option ae)(aE:List ah)(a:ah)(h:Nat)(G:ah->List Nat)(wr:ac):Prop where
 cd:dP wr ar aA aS E I aJ
 c8:∃A:List Nat,A.length=bh.length/\wr.heap[aF]? =D (Y (di A).toArray 3 (0,0))/\oP G (fun x=>x ∈ aE) a h A
 perm:∀x,(G x).Perm (eY bh bh.length x)
 mh:∀x ∈ aE,(G x).Pairwise fun i j=>ltOf M j i=Q
 row:∀t v,f t=D v->wr.ownsRow w.heap.size 3 1 v (G t).length (di (G t))/\G t≠ []
 cb:da w wr aF ar
section
variable {w wr Z:ac} {aA:Nat} {aS E I:ae} {bh:List ah} {M:Nat->Nat->Int} {ar aF aJ:Nat} {f:ah->Option ae} {aE:List ah} {a:ah} {h:Nat} {G:ah->List Nat}
theorem fo.below(H:fo w aA aS E I bh M ar aF aJ f aE a h G wr)(y:Below wr.heap.size wr Z):fo w aA aS E I bh M ar aF aJ f aE a h G Z:=by
 obtain⟨A,N,L,R⟩:=H.c8;exact⟨H.cd.below y,⟨A,N,aG L y (am L),R⟩,H.perm,H.mh,fun t v J=>⟨nb (H.row t v J).1 y ce,(H.row t v J).2⟩,H.cb.below y⟩
theorem fo.walk(H:fo w aA aS E I bh M ar aF aJ f aE a h G wr){r:Nat}(T:wr.grownBy Z (D r))(aV:∀cs t q,wr.heap[r]? ≠D (.cells cs t q))(bg:w.heap.size<=r):fo w aA aS E I bh M ar aF aJ f aE a h G Z:=by
 obtain⟨A,N,L,R⟩:=H.c8;have ap:∀{b:Nat} {cs t q},wr.heap[b]? =D (.cells cs t q)->D b≠D r:=fun {b cs t q} y e=>by
  rw[cn e] at y;exact aV _ _ _ y
 refine⟨(T.block _ (am H.cd) (ap H.cd)).trans H.cd,⟨A,N,(T.block _ (am L) (ap L)).trans L,R⟩,H.perm,H.mh,fun t v J=>⟨(H.row t v J).1.kept T (.inr fun e=> ?_),(H.row t v J).2⟩,H.cb.grown T (fun b e=>by cases e;exact .inr (.inr bg))⟩;obtain⟨cs,hc⟩:=im (H.row t v J).1 r e;exact ap hc rfl
theorem fo.rr(H:fo w aA aS E I bh M ar aF aJ f aE a h G wr)(ai:a ∉ aE){j:Nat}(K:(G a)[h]? =D j)(aU:aF < w.heap.size):fo w aA aS E I bh M ar aF aJ f aE a (h+1) G (wr.setCell ⟨aF,j,F⟩ (.int o ((h:Nat):Int))):=by
 obtain⟨A,N,L,R⟩:=H.c8;have s:ar≠aF:=fun e=>by have h1:wr.heap[ar]? =_:=H.cd;rw[e,L] at h1;simp at h1
 refine⟨eV H.cd s _,⟨A.set j h,by simpa using N, ?_,R.step H.perm ai K N⟩,H.perm,H.mh,fun t v J=>⟨dg (H.row t v J).1 (fun b y e=> ?_) _ _,(H.row t v J).2⟩,H.cb.set _ _⟩
 ·have:=bq L j (.int o ((h:Nat):Int))
  rw[r6] at this;exact this
 have:=((H.row t v J).1.lt b y).1;omega
theorem fo.wQ(H:fo w aA aS E I bh M ar aF aJ f aE a 0 G wr)(b:ah):fo w aA aS E I bh M ar aF aJ f aE b 0 G wr:=by
 obtain⟨A,N,L,R⟩:=H.c8;exact⟨H.cd,⟨A,N,L,⟨R.1,fun p j V=>by omega⟩⟩,H.perm,H.mh,H.row,H.cb⟩
theorem fo.next(H:fo w aA aS E I bh M ar aF aJ f aE a (G a).length G wr)(bf:(G a).Pairwise fun i j=>ltOf M j i=Q)(b:ah):fo w aA aS E I bh M ar aF aJ f (aE++ [a]) b 0 G wr:=by
 obtain⟨A,N,L,R⟩:=H.c8;refine⟨H.cd,⟨A,N,L,⟨fun x s p j K=> ?_,fun p j V=>by omega⟩⟩,H.perm,fun x s=> ?_,H.row,H.cb⟩
 ·rcases List.mem_append.1 s with s | s
  ·exact R.1 x s p j K
  rw[List.mem_singleton] at s;subst s;exact R.2 p j (bM.1 K).1 K
 rcases List.mem_append.1 s with s | s
 ·exact H.mh x s
 rw[List.mem_singleton] at s;subst s;exact bf
theorem fo.mg(H:fo w aA aS E I bh M ar aF aJ f aE a 0 G wr)(ai:a ∉ aE){g c:Nat}{eG:List Nat}(J:f a=D (O (D ⟨g,0,F⟩) (G a).length c))(a4:∀t v,t≠a->f t=D v->v.ownBlock≠D g)(V:eG.Perm (G a))
  (aW:Z.ownsRow w.heap.size 3 1 (O (D ⟨g,0,F⟩) (G a).length c) (G a).length (di eG)) (T:wr.grownBy Z (D g)) (bi:w.heap.size<=g) (a0:ar < w.heap.size) (aU:aF < w.heap.size):fo w aA aS E I bh M ar aF aJ f aE a 0 (fun x=>if x=a then eG else G x) Z:=by
 obtain⟨A,N,L,R⟩:=H.c8;have aC:∀x ∈ aE,(if x=a then eG else G x)=G x:=fun x s=>by
  have:x≠a:=fun e=>by rw[e] at s;exact ai s
  rw[if_neg this]
 refine⟨(T.block _ (am H.cd) (fun e=>by have:=cn e;omega)).trans H.cd,⟨A,N,(T.block _ (am L) (fun e=>by have:=cn e;omega)).trans L,⟨fun x s p j K=> ?_,fun p j V=>by omega⟩⟩,fun x=> ?_,fun x s=> ?_,fun t v ht=> ?_,H.cb.grown T (fun b e=>by cases e;exact .inr (.inr bi))⟩
 ·have K:(if x=a then eG else G x)[p]? =D j:=K
  rw[aC x s] at K;exact R.1 x s p j K
 ·by_cases e:x=a
  ·subst e
   simp only[if_true];exact V.trans (H.perm x)
  simp only[if_neg e];exact H.perm x
 ·have h1:=H.mh x s
  rw[<-aC x s] at h1;exact h1
 by_cases e:t=a
 ·subst e
  rw[if_pos rfl];rw[J] at ht;cases ht
  refine⟨by rw[V.length_eq];exact aW,fun ak=> ?_⟩;have h1:=(H.row t _ J).2;rw[ak] at V;exact h1 V.symm.eq_nil
 simp only[if_neg e];exact⟨(H.row t v ht).1.kept T (.inr (a4 t v e ht)),(H.row t v ht).2⟩
end
theorem yz(w:ac)(g j:Nat)(v:ae):w.grownBy (w.setCell ⟨g,j,F⟩ v) (D g):=
 ⟨rfl,rfl,rfl,by simp,fun k _ h=>Below.heap_setCell w ⟨g,j,F⟩ v k (fun e=>h (congrArg D e))⟩
theorem rN{H:Type}{P:Program}{k:TypeId}{aP:ae->Option (DataW H×List MemPlace)}{w:ac}{b r n:Nat}{aO:DataW H}{left:Lit->Bool}{aR:Nat}(h:w.ranges P k aP b r n aO left aR):∀cs t q,w.heap[r]? ≠D (.cells cs t q):=by
 obtain⟨_,_,_,_,_,_,_,_,_,aV,_⟩:=h;intro cs t q e;rw[aV] at e;cases e
theorem BK{H:Type}{P:Program}{k:TypeId}{aP:ae->Option (DataW H×List MemPlace)}{w:ac}{b r n:Nat}{aO:DataW H}{left:Lit->Bool}{aR:Nat}(h:w.ranges P k aP b r n aO left aR):∃aT c,w.heap[b]? =D (.map aT c):=by
 obtain⟨aT,c,_,_,_,y,_⟩:=h;exact⟨aT,c,y⟩
theorem uT{w:ac}{a1 n c g:Nat}{l:List Nat}(h:w.ownsRow a1 3 1 (O (D ⟨g,0,F⟩) n c) n (di l)){j z:Nat}(aI:l[j]? =D z):w.cell? ⟨g,j,F⟩=D (.int o (z:Int)):=by
 rcases h.2 with ⟨e,_⟩ | ⟨bm,bl,a3,e,_,T,_,_,_,ht⟩
 ·cases e
 cases e
 rw[aB T j];have K:j < l.length:=(bM.1 aI).1;have hn:=h.1;rw[v8] at hn;have h1:(a3.toList.take (n*1))[j]? =(di l)[j]? :=by rw[ht]
 rw[List.getElem?_take_of_lt (by omega),p7 K] at h1;rw[<-Array.getElem?_toList,h1,cf,aI];rfl
end
end Go.Proofs.YteaeipgfjmnecaaGreatDoor

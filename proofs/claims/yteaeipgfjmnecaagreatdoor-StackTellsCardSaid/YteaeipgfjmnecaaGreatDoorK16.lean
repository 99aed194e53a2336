/- Lemmas; each says its own conditions. -/
import Derived.Test.YteaeipgfjmnecaaGreatDoorK15
open And renaming intro->a7
open Bool renaming and_eq_true->cu,false->Q,false_and->dG,true->S,true_and->ib
open Decidable renaming decide->au
open Go renaming Calls->bB,Value->ae,World->ac,heap_alloc_new->aQ,undef->U
open Go.Act renaming put->a6
open Go.IntKind renaming i64->b7
open Go.IntWalk renaming i64_in->ca
open Int renaming eq_ofNat_of_zero_le->lo,toNat_natCast->lp
open Go.IntKind renaming i64->o
open List renaming getD_eq_getElem?_getD->cf,getElem?_eq_getElem->bb,getElem?_eq_some_iff->bM,idxOf_lt_length_of_mem->gK,length_eq_zero_iff->gm,mem_map->j6,mem_of_getElem?->cH,range->c4,setIfInBounds_toArray->bd,set_cons_succ->ba,set_cons_zero->bc
open Nat renaming le_succ->iW
open Go.Obj renaming cells->Y
open Option renaming none->F,some->D
open Go.Proofs.Tryz renaming prog->aj
open Go.Value renaming agg->aq,bool->aa,int->B,pointer->ad,slice->O
namespace Go.Proofs.YteaeipgfjmnecaaGreatDoor
set_option linter.unusedSimpArgs false
set_option linter.unusedVariables false
set_option maxHeartbeats 12800000
section
set_option maxRecDepth 100000
open Go.RowKit Go.Maps
theorem tG{w Z:ac}{v a8:ae}{b:Nat}{af:Obj}(h:fm w Z v a8)(bg:w.heap[b]? =D af)(dC:v.ownBlock≠D b):Z.heap[b]? =D af:=(h.grown.block b (am bg) (fun e=>dC e.symm)).trans bg
theorem uV{w:ac}{eU n aL b:Nat}{e t:TypeId}{v:ae}{fN:List ae}{cs:Array ae}(h:w.ownsRow eU e aL v n fN)(bg:w.heap[b]? =D (.cells cs t (0,0)))(dC:e≠t):v.ownBlock≠D b:=by
 intro hv;rcases h.2 with ⟨rfl,rfl⟩ | ⟨g,fT,fV,rfl,_,fc,_⟩
 ·simp[Value.ownBlock] at hv
 simp only[Value.ownBlock,Option.some.injEq] at hv;subst hv;rw[fc] at bg;injection bg with bg
 injection bg with _ ab
 exact dC ab
theorem s4:(Tryz.prog.info? 89).map (fun i=>(i.zero,i.size,i.bytes))=D (D (aq #[B o 0, B o 0, B o 0, B o 0, B o 0, B o 0, B o 0, B o 0, B o 0, B o 0, B o 0, B o 0, B o 0, aa Q]),14,112):=by kernel_rfl
theorem xM(W H:Nat)(Am Ac Ap:Option Addr)(nm cm nc cc np cp:Nat)(mask:List Int)(cs:List bw)(L:List ah)(ms:List aR)(w:ac)(bf:eF w W H Am nm mask Ac nc cs)(hL:bG W mask=L)(dH:Rd w 6 Ap np (b5 ms))(dh:fp L (fr Q cs) ms):
  bB aj 32 #[g5 W H Am nm cm Ac nc cc, O Ap np cp] w fun e Z=>∃v,e= .returned v/\Z.ownsRow w.heap.size 89 14 v (L.length*3) (hy (d4 L ms cs (L.length*3)))/\Below w.heap.size w Z:=by
 have eG:=aQ w (Y #[B o W, B o H, O Am nm cm, O Ac nc cc] 25);have b8:=aV w (Y #[B o W, B o H, O Am nm cm, O Ac nc cc] 25);obtain⟨a0,ao,a2,da⟩:=dm eG;have dj:=bf.below b8;have cZ:=lh W H Am Ac nm cm nc cc mask cs (w.alloc (Y #[B o W, B o H, O Am nm cm, O Ac nc cc] 25)) dj;have fg:np=ms.length:=by
  have:=dH.1;rw[l4] at this;omega
 have dy:∀t ∈ bG W mask,eD t:=fun t ht=>by
  have:=lg (by have:=bf.ih;omega) bf.len ht;have h1:=bf.ih;have ab:=bf.km;exact⟨by omega,by omega,this.2.2.2.2⟩
 have ez:(bG W mask).length<=1000:=by
  have h1:=ny W mask;have ab:W*H<=8*8:=Nat.mul_le_mul bf.ih.2 bf.km.2;have ag:=bf.len;omega
 rw[hL] at cZ dy ez;have cB:=dh.len;have fh:w.heap.size<=(w.alloc (Y #[B o W, B o H, O Am nm cm, O Ac nc cc] 25)).heap.size:=b8.size;obtain⟨ek,ed,dT,dW,ec,eg⟩:=ft dj (dH.below b8) cZ b8 dy dh.may;have ff:np=L.length:=by omega
 subst ff;clear bf dj dH cZ dy hL fg eG dh b8;go_in
 go_wp2_with (go_at_call 28;refine dT.out.mono ?_;rintro r a3 ⟨v,rfl,dE,bj⟩;obtain⟨fO,cx,rfl,_⟩:=dd dE;have dX:=R (dW.out.trans (bj.mono fh));have bN:=R (dn dE (show w.heap.size<=_ by simp));have eR:=R (ek.out.below bj);have ee:=R (ed.out.below bj);replace a0:=V a0 bj;replace ao:=V ao bj;replace a2:=V a2 bj;replace da:=V da bj;clear dE bj dT)
 have eE:=dX.out.size;have eC:Hid (a3.ownsRow a3.heap.size 89 14 (O F 0 0) 0 (hy (d4 L ms cs 0))):=R (World.ownsRow_nil _ _ _ _);clear ek ed dW;go_loopw [6,7] (fun T v wr=>∃i:Nat,i<=L.length/\v= B o i/\Hid (wr.ownsRow a3.heap.size 89 14 T (i*3) (hy (d4 L ms cs (i*3))))/\Hid (Below a3.heap.size a3 wr)) (fun _ v _=>L.length-(intOf v).toNat)
 case atStart=>exact⟨0,by omega,rfl,eC,R aX⟩
 clear eC;obtain⟨i,al,rfl,bp,ce⟩:=hrel;by_cases dx:i < L.length
 ·obtain⟨aJ,aK,m,hA,eA,fX,ar,av,az,aA,aE,aF⟩:=Rd.mp (by rw[cB];exact ee.out) (show i < ms.length by rw[cB];exact dx)
  subst hA;obtain⟨t,ht⟩:∃t,L[i]? =D t:=⟨_,bb dx⟩;obtain⟨gt,fU,fW,fi,_⟩:=dF bN.out (by omega);injection fi with ap _ N
  subst ap;subst N;have fb:=ce.out;have dz:=ec.out t (cH ht);have fZ:(i:Int) < (L.length:Int):=by omega
  have fY:(0:Int)<=(i:Int):=by omega
  have bD:ms.getD i zeroV=m:=by rw[cf,eA];rfl
  have ew:L.getD i el=t:=by rw[cf,ht];rfl
  have bn:=(eg.out i dx).1;rw[bD] at bn;obtain⟨ef,cX,c7,cw,cV⟩:=dY bn bD ew ht dz;have eS:=R (a7 ar (a7 av (a7 az (a7 aA (a7 aE aF)))));obtain⟨G,I,J⟩:=ey (bo bN.out fb) ht;have hts:=dz.sm;have dR:=R (fun W:ac=>mP t.1 t.2.1 t.2.2 W (by have:=hts.1;omega) (by have:=hts.1;omega) (by have:=hts.2.1;omega) (by have:=hts.2.1;omega) hts.2.2.1 hts.2.2.2);clear dz eA bD ew bn ht hts ar av az aA aE aF;obtain⟨ga,rfl⟩:=ai wr;have d8:=ce
  go_wp2_with (go_at_call 71;refine(dR.out _).mono ?_;rintro r fK ⟨⟨ge,rfl,bP⟩,cb⟩;have eb:=R (show hk fK ge t from bP);have d3:=R (d8.out.trans (cb.mono d8.out.size));have ei:=R (bo bp.out cb);clear bP cb dR G I J bp ce)
  go_loopw [6,9] (fun T v wr=>∃k:Nat,k<=3/\v= B o k/\Hid (wr.ownsRow a3.heap.size 89 14 T (i*3+k) (hy (d4 L ms cs (i*3+k))))/\Hid (hk wr ge t)/\Hid (Below a3.heap.size a3 wr)) (fun _ v _=>3-(intOf v).toNat)
  case atStart=>exact⟨0,by omega,rfl,ei,eb,d3⟩
  clear ei eb d3;obtain⟨k,f5,rfl,bp,cA,es⟩:=hrel;by_cases ch:k < 3
  ·have f7:(k:Int) < 3:=by omega
   have f6:(0:Int)<=(k:Int):=by omega
   have dr:=es.out;have em:=cA.out;obtain⟨aI,ap,ak,N⟩:=em.at_ ch;obtain⟨G,I,J⟩:=ey (bo bN.out dr) cw.out;have hts:=cV.out.sm;have dg:=fun(be:ac)=>qE t.1 t.2.1 t.2.2 k be ch (by have:=hts.1;omega) (by have:=hts.1;omega) (by have:=hts.2.1;omega) (by have:=hts.2.1;omega) hts.2.2.1 hts.2.2.2;have cC:=fun h=>px (k:=k) cw.out h;have hns:=fun h=>og (k:=k) cw.out h;have bP:=cV.out.iI ch;obtain⟨c,hc⟩:=ai (c0 L ms cs i k);have dv:=xQ L ms cs i k ch;rw[<-hc] at dv;have dt:c.e=fP m (bk t k):=by rw[hc];simp only[c0,cX.out,c7.out]
   have du:c.kind=ea cs (bk t k):=by rw[hc];simp only[c0,c7.out]
   have et:c.over=kI m:=by rw[hc];simp only[c0,cX.out]
   have eu:c.pl=dD m t:=by rw[hc];simp only[c0,bA,cX.out,c7.out]
   have ev:c.ay=i:=by rw[hc];rfl
   obtain⟨E,cy⟩:=ai (bk t k);obtain⟨aS,dq⟩:=ai (bE t k);rw[show dI t.1 t.2.1 t.2.2 k=aS from dq.symm,show ci t.1 t.2.1 t.2.2 k=E from cy.symm] at dg;rw[<-dq] at cC hns;rw[<-cy] at bP dt du aI ap ak N;have bl:c.an=dU L aS/\(aS ∈ L->c.aH=bA L ms (L.idxOf aS))/\(aS ∉ L->c.aH=el):=by
    rw[hc];simp only[c0];by_cases bQ:aS ∈ L
    ·rw[hns bQ];unfold dU;rw[if_pos bQ];exact⟨rfl,fun _=>rfl,fun h=>absurd bQ h⟩
    ·rw[cC bQ];unfold dU;rw[if_neg bQ];exact⟨rfl,fun h=>absurd h bQ,fun _=>rfl⟩
   obtain⟨eM,dV,eO,cT,d9,bL,d5⟩:=kp cy dg bP bl dv (a7 dt (a7 du (a7 et (a7 eu ev)))) dr;clear dg cC hns bP cy dq hts em dr hc dv dt du et eu ev bl;obtain⟨be,rfl⟩:=ai wr
   go_wp2_with fail
   refine ir (fin:= ?z1) [12,13] [[S,S,S,S,S,S,S,S,S,S,S,S,Q,Q,S], [S,S,S,S,S,S,S,S,S,S,S,S,Q,Q,S], [Q,Q,Q,Q,Q,Q,Q,Q,Q,Q,Q,S,Q,Q,S]] [[], [12,10,9,8,3,7,2,6,0,1,4,5]] (fun x=> [O (D ⟨gt,0,F⟩) L.length cx, B o i, ad (D ⟨gt,i*3,F⟩),bK t, O (D ⟨ge,0,F⟩) 3 3, B o k, ad (D ⟨ge,k*4,F⟩),bS E, .tuple #[bK aS, aa S], .tuple #[bK aS, aa S],bK aS, aa S,(x 0),(x 1), aa S]) (fun z x l=>match z with | 0=>l.cell? ⟨gt,i*3,F⟩=D (B o t.1)/\l.cell? ⟨gt,i*3+1,F⟩=D (B o t.2.1)/\l.cell? ⟨gt,i*3+2,F⟩=D (B o t.2.2)/\l.cell? ⟨ge,k*4,F⟩=D (B o E.1)/\l.cell? ⟨ge,k*4+1,F⟩=D (B o E.2.1)/\l.cell? ⟨ge,k*4+2,F⟩=D (B o E.2.2.1)/\l.cell? ⟨ge,k*4+3,F⟩=D (B o E.2.2.2)/\Below be.heap.size be l | 1=>l.cell? ⟨gt,i*3,F⟩=D (B o t.1)/\l.cell? ⟨gt,i*3+1,F⟩=D (B o t.2.1)/\l.cell? ⟨gt,i*3+2,F⟩=D (B o t.2.2)/\l.cell? ⟨ge,k*4,F⟩=D (B o E.1)/\l.cell? ⟨ge,k*4+1,F⟩=D (B o E.2.1)/\l.cell? ⟨ge,k*4+2,F⟩=D (B o E.2.2.1)/\l.cell? ⟨ge,k*4+3,F⟩=D (B o E.2.2.2)/\Below be.heap.size be l/\∃g,Hid (x 0= ad (D ⟨g,0,F⟩))/\l.heap[g]? =D (Y #[B o 0, B o 0, B o 0] 53 (0,0))/\Hid (be.heap.size<=g) | _=>Below be.heap.size be l/\∃g,Hid (x 0= ad (D ⟨g,0,F⟩))/\l.heap[g]? =D (Y #[B o aS.1, B o aS.2.1, B o aS.2.2] 53 (0,0))/\Hid (be.heap.size<=g)) ?hf (by kernel_rfl) (by kernel_rfl) (fun _=>rfl) (by kernel_rfl) ?hv ⟨G,I,J,aI,ap,ak,N,aX.drew⟩ ?hA ?bi (fun x l hst=> ?_)
   case hf=>intro x;simp only[aT,a6,bd,ba,bc];exact rfl
   case hv=>
    intro x z t v h
    cases z with
    | zero=>cases h;rfl
    | succ z=>
     cases z with
     | zero=>cases h;rfl
     | succ z=>
      simp at h
   case hA=>
    intro z x l a1 hst;have a1:z<=2:=a1;rcases(show z=0∨z=1∨z=2 by omega) with rfl | rfl | rfl
    ·have a5:=R hst
     obtain⟨G,I,J,aI,ap,ak,N,s⟩:=hst;iterate 13 refine⟨?_,fun K M=> ?_⟩
     ·trivial
     all_goals try (go_simp;exact M _ a5.out;done)
     go_simp;exact aw (dV.out l) fun wc a=>M _ ⟨V G a,V I a,V J a,V aI a,V ap a,V ak a,V N a,ax s a⟩
    ·have a5:=R hst
     obtain⟨G,I,J,aI,ap,ak,N,s,g,aO,y,P⟩:=hst;iterate 13 refine⟨?_,fun K M=> ?_⟩
     ·trivial
     all_goals try (go_simp;exact M _ a5.out;done)
     go_simp;exact aw (dV.out l) fun wc a=>M _ ⟨V G a,V I a,V J a,V aI a,V ap a,V ak a,V N a,ax s a,g,aO,aG y a (am y),P⟩
    have a5:=R hst;obtain⟨s,g,aO,y,P⟩:=hst;iterate 2 refine⟨?_,fun K M=> ?_⟩
    ·trivial
    all_goals try (go_simp;exact M _ a5.out;done)
   case bi=>
    intro z t x l ht hst af bF K M
    cases z with
    | zero=>
     cases ht;cases bF
     obtain⟨G,I,J,aI,ap,ak,N,s⟩:=hst;go_simp;exact M (ad (D ⟨l.heap.size,0,F⟩)) _ ⟨aD G (Y #[B o 0, B o 0, B o 0] 53),aD I (Y #[B o 0, B o 0, B o 0] 53),aD J (Y #[B o 0, B o 0, B o 0] 53),aD aI (Y #[B o 0, B o 0, B o 0] 53),aD ap (Y #[B o 0, B o 0, B o 0] 53),aD ak (Y #[B o 0, B o 0, B o 0] 53),aD N (Y #[B o 0, B o 0, B o 0] 53),s.alloc s.size (Y #[B o 0, B o 0, B o 0] 53),l.heap.size,R rfl,aQ l (Y #[B o 0, B o 0, B o 0] 53),R s.size⟩
    | succ z=>
     cases z with
     | zero=>
      cases ht;cases bF
      obtain⟨G,I,J,aI,ap,ak,N,s,g,aO,y,P⟩:=hst;have dL:=aO.out;obtain⟨co,z1,z2⟩:=dl y;have eI:=br y;have eJ:=am y;rw[dL] at M |-;go_simp;have dM:=bq (bq (bq y 0 (B o aS.1)) 1 (B o aS.2.1)) 2 (B o aS.2.2);exact M U _ ⟨jg s g P.out _ _ _,g,aO,by simpa using dM,P⟩
     | succ z=>
      simp at ht
   obtain⟨s,g,aO,y,P⟩:=hst;rw[aO.out];obtain⟨fD,fE,fF⟩:=dl y;obtain⟨cr,d7⟩:=aY (d5.out.trans (s.mono d5.out.size)) s;obtain⟨fL,rfl⟩:=ai l;have dp:=ot _ (D ⟨gt,0,F⟩) cx L aS fL (bo bN.out cr.out) ez;obtain⟨bh,di⟩:=ai (dU L aS);rw[<-di] at dp;obtain⟨c6,dS⟩:=aY di dp;clear di dp aO y P s G I J aI ap ak N
   go_wp2_with (go_at_call 30;refine aw dS.out fun fM aW=> ?_;have bs:=R (cr.out.trans (aW.mono cr.out.size));have ct:=R (ax d7.out aW);have ej:=R (bo bp.out ct.out);clear dS aW cr d7 fD fE fF)
   obtain⟨a4,fj⟩:∃x,x=fM:=⟨_,rfl⟩;subst fj;have aW:=bs.out;obtain⟨ar,av,az,aA,aE,aF⟩:=eS.out;obtain⟨G,I,J⟩:=ey (bo bN.out aW) cw.out;obtain⟨aI,ap,ak,N⟩:=(cA.out.below ct.out).at_ ch;rw[<-eM.out] at aI ap ak N;replace ar:=V ar aW;replace av:=V av aW;replace az:=V az aW;replace aA:=V aA aW;replace aE:=V aE aW;replace aF:=V aF aW;obtain⟨b0,b1,aC,aM⟩:=fQ aW a0 ao a2 da;have hts:=cV.out.sm;have aN:=gA (hJ ef.out) (by omega);have a9:=g0 ef.out;have aU:=eO.out;have cz:=ck aN.ao aN.a2 (show -40<=E.1 from aU.b0.1) aU.b0.2;have b9:=ck aN.b1 aN.aC (show -40<=E.2.1 from aU.b1.1) aU.b1.2;have dZ:=ck aN.c1 aN.c2 (show -40<=E.1 from aU.b0.1) aU.b0.2;have dO:=ck aN.d1 aN.d2 (show -40<=E.2.1 from aU.b1.1) aU.b1.2
   have aZ:=ck aN.ao aN.a2 (show -40<=E.2.2.1 from aU.aC.1) aU.aC.2;have bm:=ck aN.b1 aN.aC (show -40<=E.2.2.2 from aU.aM.1) aU.aM.2;have fG:=ck aN.c1 aN.c2 (show -40<=E.2.2.1 from aU.aC.1) aU.aC.2;have fH:=ck aN.d1 aN.d2 (show -40<=E.2.2.2 from aU.aM.1) aU.aM.2;have fI:=a7 aN.ap aN.ak;have fJ:=a7 aN.f1 aN.f2;have dc:=fun W:ac=>jd m.1 m.2.1 m.2.2.1 m.2.2.2.1 m.2.2.2.2.1 m.2.2.2.2.2 E.1 E.2.1 W (by omega) (by omega) (by omega) (by omega) (by omega) (by omega);have de:=fun W:ac=>jd m.1 m.2.1 m.2.2.1 m.2.2.2.1 m.2.2.2.2.1 m.2.2.2.2.2 E.2.2.1 E.2.2.2 W (by omega) (by omega) (by omega) (by omega) (by omega) (by omega);have b4:=fun W:ac=>pN (m.1*E.1+m.2.1*E.2.1+m.2.2.2.2.1) (m.2.2.1*E.1+m.2.2.2.1*E.2.1+m.2.2.2.2.2) (m.1*E.2.2.1+m.2.1*E.2.2.2+m.2.2.2.2.1) (m.2.2.1*E.2.2.1+m.2.2.2.1*E.2.2.2+m.2.2.2.2.2) W
   have dB:=bL.out.1;unfold fP at dB;rw[<-dB] at b4;obtain⟨bR,en⟩:=ai (m.1*E.1+m.2.1*E.2.1+m.2.2.2.2.1);obtain⟨bH,eo⟩:=ai (m.2.2.1*E.1+m.2.2.2.1*E.2.1+m.2.2.2.2.2);obtain⟨bt,ep⟩:=ai (m.1*E.2.2.1+m.2.1*E.2.2.2+m.2.2.2.2.1);obtain⟨eT,eq⟩:=ai (m.2.2.1*E.2.2.1+m.2.2.2.1*E.2.2.2+m.2.2.2.2.2);rw[<-en,<-eo] at dc b4;rw[<-ep,<-eq] at de b4;have bz:=fun(W:ac)=>m3 m.1 m.2.1 m.2.2.1 m.2.2.2.1 m.2.2.2.2.1 m.2.2.2.2.2 t.1 t.2.1 t.2.2 W aN a9.1 a9.2.1 a9.2.2 (by have:=hts.1;omega) (by have:=hts.1;omega) (by have:=hts.2.1;omega) (by have:=hts.2.1;omega) hts.2.2.1 hts.2.2.2;rw[show h8 m.1 m.2.1 m.2.2.1 m.2.2.2.1 m.2.2.2.2.1 m.2.2.2.2.2 t.1 t.2.1 t.2.2=c.pl from bL.out.2.2.2.1.symm] at bz;have db:=fun(W':ac) (bg:Below a4.heap.size a4 W')=>rn W H Am Ac nm cm nc cc mask cs E W' (eR.out.below (aW.trans (bg.mono aW.size)))
   rw[<-bL.out.2.1] at db;have df:=fun W:ac=>Dk m a9.1 W;rw[<-bL.out.2.2.1] at df;obtain⟨cO,cP,cM,bJ,cN,cQ,fR⟩:=kp dc de b4 bz db df a9;clear hts aN a9 aU cz b9 dZ dO aZ bm fG fH fI fJ dc de b4 dB en eo ep eq bz db df
   go_wp2_with fail
   refine ir (fin:= ?z2) [44,45] [[S,S,S,S,S,S,S,S,S,S,S,S,S,S,S,S,S,S,S,S,S,S,S,S,S,S,S,S,S,S,S,S,S,S,S,S,S,S,S,S,S,S,S,S,Q,Q], [S,S,S,S,S,S,S,S,S,S,S,S,S,S,S,S,S,S,S,S,S,S,S,S,S,S,S,S,S,S,S,S,S,S,S,S,S,S,S,S,S,S,S,S,Q,Q], [Q,Q,Q,Q,Q,Q,Q,Q,Q,Q,Q,Q,Q,Q,Q,Q,Q,Q,Q,Q,Q,Q,Q,Q,Q,Q,Q,Q,Q,Q,Q,Q,Q,Q,Q,Q,Q,Q,Q,Q,Q,Q,Q,Q,Q,Q]] [[], [44,43,20,21,30,31,37,42,9,19,25,29,32,36,41,3,8,13,18,24,28,35,40,2,7,12,17,22,23,26,27,33,34,38,39,0,1,6,10,11,16,4,5,14,15]] (fun x=> [O (D ⟨aJ,aK,F⟩) L.length cp, B o (i:Int), ad (D ⟨aJ,aK+i*6,F⟩),b2 m, O (D ⟨ge,0,F⟩) 3 3, B o (k:Int), ad (D ⟨ge,k*4,F⟩), ad (D ⟨ge,k*4,F⟩),bu E.1 E.2.1,bu bR bH, O (D ⟨aJ,aK,F⟩) L.length cp, B o (i:Int), ad (D ⟨aJ,aK+i*6,F⟩),b2 m, O (D ⟨ge,0,F⟩) 3 3, B o (k:Int), ad (D ⟨ge,k*4,F⟩), ad (D ⟨ge,k*4+2,F⟩),bu E.2.2.1 E.2.2.2,bu bt eT,bS c.e, B o (i:Int), O (D ⟨aJ,aK,F⟩) L.length cp, B o (i:Int), ad (D ⟨aJ,aK+i*6,F⟩),b2 m, O (D ⟨gt,0,F⟩) L.length cx, B o (i:Int), ad (D ⟨gt,i*3,F⟩),bK t,bK c.pl, B o bh, aq #[B o W, B o H, O Am nm cm, O Ac nc cc], O (D ⟨ge,0,F⟩) 3 3, B o (k:Int), ad (D ⟨ge,k*4,F⟩),bS E, B o c.kind, O (D ⟨aJ,aK,F⟩) L.length cp, B o (i:Int), ad (D ⟨aJ,aK+i*6,F⟩),b2 m, aa c.over, aq #[B o c.e.1, B o c.e.2.1, B o c.e.2.2.1, B o c.e.2.2.2, B o (i:Int), B o c.pl.1, B o c.pl.2.1, B o c.pl.2.2, B o bh, B o 0, B o 0, B o 0, B o c.kind, aa c.over],(x 0),(x 1)]) (fun z x l=>match z with | 0=>l.cell? ⟨w.heap.size,0,F⟩=D (B o W)/\l.cell? ⟨w.heap.size,1,F⟩=D (B o H)/\l.cell? ⟨w.heap.size,2,F⟩=D (O Am nm cm)/\l.cell? ⟨w.heap.size,3,F⟩=D (O Ac nc cc)/\l.cell? ⟨gt,i*3,F⟩=D (B o t.1)/\l.cell? ⟨gt,i*3+1,F⟩=D (B o t.2.1)/\l.cell? ⟨gt,i*3+2,F⟩=D (B o t.2.2)/\l.cell? ⟨ge,k*4,F⟩=D (B o E.1)/\l.cell? ⟨ge,k*4+1,F⟩=D (B o E.2.1)/\l.cell? ⟨ge,k*4+2,F⟩=D (B o E.2.2.1)/\l.cell? ⟨ge,k*4+3,F⟩=D (B o E.2.2.2)/\l.cell? ⟨aJ,aK+i*6,F⟩=D (B o m.1)/\l.cell? ⟨aJ,aK+i*6+1,F⟩=D (B o m.2.1)/\l.cell? ⟨aJ,aK+i*6+2,F⟩=D (B o m.2.2.1)/\l.cell? ⟨aJ,aK+i*6+3,F⟩=D (B o m.2.2.2.1)/\l.cell? ⟨aJ,aK+i*6+4,F⟩=D (B o m.2.2.2.2.1)/\l.cell? ⟨aJ,aK+i*6+5,F⟩=D (B o m.2.2.2.2.2)/\Below a4.heap.size a4 l | 1=>l.cell? ⟨w.heap.size,0,F⟩=D (B o W)/\l.cell? ⟨w.heap.size,1,F⟩=D (B o H)/\l.cell? ⟨w.heap.size,2,F⟩=D (O Am nm cm)/\l.cell? ⟨w.heap.size,3,F⟩=D (O Ac nc cc)/\l.cell? ⟨gt,i*3,F⟩=D (B o t.1)/\l.cell? ⟨gt,i*3+1,F⟩=D (B o t.2.1)/\l.cell? ⟨gt,i*3+2,F⟩=D (B o t.2.2)/\l.cell? ⟨ge,k*4,F⟩=D (B o E.1)/\l.cell? ⟨ge,k*4+1,F⟩=D (B o E.2.1)/\l.cell? ⟨ge,k*4+2,F⟩=D (B o E.2.2.1)/\l.cell? ⟨ge,k*4+3,F⟩=D (B o E.2.2.2)/\l.cell? ⟨aJ,aK+i*6,F⟩=D (B o m.1)/\l.cell? ⟨aJ,aK+i*6+1,F⟩=D (B o m.2.1)/\l.cell? ⟨aJ,aK+i*6+2,F⟩=D (B o m.2.2.1)/\l.cell? ⟨aJ,aK+i*6+3,F⟩=D (B o m.2.2.2.1)/\l.cell? ⟨aJ,aK+i*6+4,F⟩=D (B o m.2.2.2.2.1)/\l.cell? ⟨aJ,aK+i*6+5,F⟩=D (B o m.2.2.2.2.2)/\Below a4.heap.size a4 l/\∃A,Hid (x 0= ad (D ⟨A,0,F⟩))/\l.heap[A]? =D (Y #[B o 0, B o 0, B o 0, B o 0, B o 0, B o 0, B o 0, B o 0, B o 0, B o 0, B o 0, B o 0, B o 0, aa Q] 89 (0,0))/\Hid (a4.heap.size<=A) | _=>Below a4.heap.size a4 l/\∃A,Hid (x 0= ad (D ⟨A,0,F⟩))/\l.heap[A]? =D (Y #[B o c.e.1, B o c.e.2.1, B o c.e.2.2.1, B o c.e.2.2.2, B o (i:Int), B o c.pl.1, B o c.pl.2.1, B o c.pl.2.2, B o bh, B o 0, B o 0, B o 0, B o c.kind, aa c.over] 89 (0,0))/\Hid (a4.heap.size<=A)) ?hf (by kernel_rfl) (by kernel_rfl) (fun _=>rfl) (by kernel_rfl) ?hv ⟨b0,b1,aC,aM,G,I,J,aI,ap,ak,N,ar,av,az,aA,aE,aF,aX.drew⟩ ?hA ?bi (fun x l hst=> ?_)
   case hf=>intro x;simp only[aT,a6,bd,ba,bc];exact rfl
   case hv=>
    intro x z t v h
    cases z with
    | zero=>cases h;rfl
    | succ z=>
     cases z with
     | zero=>cases h;rfl
     | succ z=>
      simp at h
   case hA=>
    intro z x l a1 hst;have a1:z<=2:=a1;rcases(show z=0∨z=1∨z=2 by omega) with rfl | rfl | rfl
    ·have a5:=R hst
     obtain⟨b0,b1,aC,aM,G,I,J,aI,ap,ak,N,ar,av,az,aA,aE,aF,s⟩:=hst;iterate 44 refine⟨?_,fun K M=> ?_⟩
     ·trivial
     all_goals try (go_simp;exact M _ a5.out;done)
     ·go_simp
      exact aw (cQ.out l) fun wc a=>M _ ⟨V b0 a,V b1 a,V aC a,V aM a,V G a,V I a,V J a,V aI a,V ap a,V ak a,V N a,V ar a,V av a,V az a,V aA a,V aE a,V aF a,ax s a⟩
     ·go_simp
      exact aw (cN.out l s) fun wc a=>M _ ⟨V b0 a,V b1 a,V aC a,V aM a,V G a,V I a,V J a,V aI a,V ap a,V ak a,V N a,V ar a,V av a,V az a,V aA a,V aE a,V aF a,ax s a⟩
     ·go_simp
      exact aw (bJ.out l) fun wc a=>M _ ⟨V b0 a,V b1 a,V aC a,V aM a,V G a,V I a,V J a,V aI a,V ap a,V ak a,V N a,V ar a,V av a,V az a,V aA a,V aE a,V aF a,ax s a⟩
     ·go_simp
      exact aw (cM.out l) fun wc a=>M _ ⟨V b0 a,V b1 a,V aC a,V aM a,V G a,V I a,V J a,V aI a,V ap a,V ak a,V N a,V ar a,V av a,V az a,V aA a,V aE a,V aF a,ax s a⟩
     ·go_simp
      exact aw (cP.out l) fun wc a=>M _ ⟨V b0 a,V b1 a,V aC a,V aM a,V G a,V I a,V J a,V aI a,V ap a,V ak a,V N a,V ar a,V av a,V az a,V aA a,V aE a,V aF a,ax s a⟩
     go_simp;exact aw (cO.out l) fun wc a=>M _ ⟨V b0 a,V b1 a,V aC a,V aM a,V G a,V I a,V J a,V aI a,V ap a,V ak a,V N a,V ar a,V av a,V az a,V aA a,V aE a,V aF a,ax s a⟩
    ·have a5:=R hst
     obtain⟨b0,b1,aC,aM,G,I,J,aI,ap,ak,N,ar,av,az,aA,aE,aF,s,A,aO,y,P⟩:=hst;iterate 44 refine⟨?_,fun K M=> ?_⟩
     ·trivial
     all_goals try (go_simp;exact M _ a5.out;done)
     ·go_simp
      exact aw (cQ.out l) fun wc a=>M _ ⟨V b0 a,V b1 a,V aC a,V aM a,V G a,V I a,V J a,V aI a,V ap a,V ak a,V N a,V ar a,V av a,V az a,V aA a,V aE a,V aF a,ax s a,A,aO,aG y a (am y),P⟩
     ·go_simp
      exact aw (cN.out l s) fun wc a=>M _ ⟨V b0 a,V b1 a,V aC a,V aM a,V G a,V I a,V J a,V aI a,V ap a,V ak a,V N a,V ar a,V av a,V az a,V aA a,V aE a,V aF a,ax s a,A,aO,aG y a (am y),P⟩
     ·go_simp
      exact aw (bJ.out l) fun wc a=>M _ ⟨V b0 a,V b1 a,V aC a,V aM a,V G a,V I a,V J a,V aI a,V ap a,V ak a,V N a,V ar a,V av a,V az a,V aA a,V aE a,V aF a,ax s a,A,aO,aG y a (am y),P⟩
     ·go_simp
      exact aw (cM.out l) fun wc a=>M _ ⟨V b0 a,V b1 a,V aC a,V aM a,V G a,V I a,V J a,V aI a,V ap a,V ak a,V N a,V ar a,V av a,V az a,V aA a,V aE a,V aF a,ax s a,A,aO,aG y a (am y),P⟩
     ·go_simp
      exact aw (cP.out l) fun wc a=>M _ ⟨V b0 a,V b1 a,V aC a,V aM a,V G a,V I a,V J a,V aI a,V ap a,V ak a,V N a,V ar a,V av a,V az a,V aA a,V aE a,V aF a,ax s a,A,aO,aG y a (am y),P⟩
     go_simp;exact aw (cO.out l) fun wc a=>M _ ⟨V b0 a,V b1 a,V aC a,V aM a,V G a,V I a,V J a,V aI a,V ap a,V ak a,V N a,V ar a,V av a,V az a,V aA a,V aE a,V aF a,ax s a,A,aO,aG y a (am y),P⟩
    ·trivial
   case bi=>
    intro z t x l ht hst af bF K M
    cases z with
    | zero=>
     cases ht;cases bF
     obtain⟨b0,b1,aC,aM,G,I,J,aI,ap,ak,N,ar,av,az,aA,aE,aF,s⟩:=hst;go_simp;exact M (ad (D ⟨l.heap.size,0,F⟩)) _ ⟨aD b0 (Y #[B o 0, B o 0, B o 0, B o 0, B o 0, B o 0, B o 0, B o 0, B o 0, B o 0, B o 0, B o 0, B o 0, aa Q] 89),aD b1 (Y #[B o 0, B o 0, B o 0, B o 0, B o 0, B o 0, B o 0, B o 0, B o 0, B o 0, B o 0, B o 0, B o 0, aa Q] 89),aD aC (Y #[B o 0, B o 0, B o 0, B o 0, B o 0, B o 0, B o 0, B o 0, B o 0, B o 0, B o 0, B o 0, B o 0, aa Q] 89),aD aM (Y #[B o 0, B o 0, B o 0, B o 0, B o 0, B o 0, B o 0, B o 0, B o 0, B o 0, B o 0, B o 0, B o 0, aa Q] 89),aD G (Y #[B o 0, B o 0, B o 0, B o 0, B o 0, B o 0, B o 0, B o 0, B o 0, B o 0, B o 0, B o 0, B o 0, aa Q] 89),aD I (Y #[B o 0, B o 0, B o 0, B o 0, B o 0, B o 0, B o 0, B o 0, B o 0, B o 0, B o 0, B o 0, B o 0, aa Q] 89),aD J (Y #[B o 0, B o 0, B o 0, B o 0, B o 0, B o 0, B o 0, B o 0, B o 0, B o 0, B o 0, B o 0, B o 0, aa Q] 89),aD aI (Y #[B o 0, B o 0, B o 0, B o 0, B o 0, B o 0, B o 0, B o 0, B o 0, B o 0, B o 0, B o 0, B o 0, aa Q] 89),aD ap (Y #[B o 0, B o 0, B o 0, B o 0, B o 0, B o 0, B o 0, B o 0, B o 0, B o 0, B o 0, B o 0, B o 0, aa Q] 89),aD ak (Y #[B o 0, B o 0, B o 0, B o 0, B o 0, B o 0, B o 0, B o 0, B o 0, B o 0, B o 0, B o 0, B o 0, aa Q] 89),aD N (Y #[B o 0, B o 0, B o 0, B o 0, B o 0, B o 0, B o 0, B o 0, B o 0, B o 0, B o 0, B o 0, B o 0, aa Q] 89),aD ar (Y #[B o 0, B o 0, B o 0, B o 0, B o 0, B o 0, B o 0, B o 0, B o 0, B o 0, B o 0, B o 0, B o 0, aa Q] 89),aD av (Y #[B o 0, B o 0, B o 0, B o 0, B o 0, B o 0, B o 0, B o 0, B o 0, B o 0, B o 0, B o 0, B o 0, aa Q] 89),aD az (Y #[B o 0, B o 0, B o 0, B o 0, B o 0, B o 0, B o 0, B o 0, B o 0, B o 0, B o 0, B o 0, B o 0, aa Q] 89),aD aA (Y #[B o 0, B o 0, B o 0, B o 0, B o 0, B o 0, B o 0, B o 0, B o 0, B o 0, B o 0, B o 0, B o 0, aa Q] 89),aD aE (Y #[B o 0, B o 0, B o 0, B o 0, B o 0, B o 0, B o 0, B o 0, B o 0, B o 0, B o 0, B o 0, B o 0, aa Q] 89),aD aF (Y #[B o 0, B o 0, B o 0, B o 0, B o 0, B o 0, B o 0, B o 0, B o 0, B o 0, B o 0, B o 0, B o 0, aa Q] 89),s.alloc s.size (Y #[B o 0, B o 0, B o 0, B o 0, B o 0, B o 0, B o 0, B o 0, B o 0, B o 0, B o 0, B o 0, B o 0, aa Q] 89),l.heap.size,R rfl,aQ l (Y #[B o 0, B o 0, B o 0, B o 0, B o 0, B o 0, B o 0, B o 0, B o 0, B o 0, B o 0, B o 0, B o 0, aa Q] 89),R s.size⟩
    | succ z=>
     cases z with
     | zero=>
      cases ht;cases bF
      obtain⟨b0,b1,aC,aM,G,I,J,aI,ap,ak,N,ar,av,az,aA,aE,aF,s,A,aO,y,P⟩:=hst;have dL:=aO.out;obtain⟨co,z1,z2,z3,cG,cI,cJ,cK,cL,bW,bU,bV,cE,cF⟩:=hw y;have eI:=br y;have eJ:=am y;rw[dL] at M |-;go_simp;have fl:=bq y 0 (B o c.e.1);have fo:=bq fl 1 (B o c.e.2.1);have fv:=bq fo 2 (B o c.e.2.2.1);have fw:=bq fv 3 (B o c.e.2.2.2);have fx:=bq fw 4 (B o (i:Int));have fy:=bq fx 5 (B o c.pl.1);have fz:=bq fy 6 (B o c.pl.2.1);have fA:=bq fz 7 (B o c.pl.2.2);have fB:=bq fA 8 (B o bh);have fC:=bq fB 9 (B o 0);have fq:=bq fC 10 (B o 0);have fs:=bq fq 11 (B o 0);have fu:=bq fs 12 (B o c.kind)
      have eH:=bq fu 13 (aa c.over);have eX:=s.setCell (p:=⟨A,0,F⟩) P.out (B o c.e.1);have eY:=eX.setCell (p:=⟨A,1,F⟩) P.out (B o c.e.2.1);have e3:=eY.setCell (p:=⟨A,2,F⟩) P.out (B o c.e.2.2.1);have e4:=e3.setCell (p:=⟨A,3,F⟩) P.out (B o c.e.2.2.2);have e5:=e4.setCell (p:=⟨A,4,F⟩) P.out (B o (i:Int));have e6:=e5.setCell (p:=⟨A,5,F⟩) P.out (B o c.pl.1);have e7:=e6.setCell (p:=⟨A,6,F⟩) P.out (B o c.pl.2.1);have e8:=e7.setCell (p:=⟨A,7,F⟩) P.out (B o c.pl.2.2);have e9:=e8.setCell (p:=⟨A,8,F⟩) P.out (B o bh);have fa:=e9.setCell (p:=⟨A,9,F⟩) P.out (B o 0);have eZ:=fa.setCell (p:=⟨A,10,F⟩) P.out (B o 0)
      have e0:=eZ.setCell (p:=⟨A,11,F⟩) P.out (B o 0);have e1:=e0.setCell (p:=⟨A,12,F⟩) P.out (B o c.kind);have e2:=e1.setCell (p:=⟨A,13,F⟩) P.out (aa c.over);simp only[bd,ba,bc] at eH;exact M U _ ⟨e2,A,aO,eH,P⟩
     | succ z=>
      simp at ht
   obtain⟨s,A,aO,y,P⟩:=hst;rw[aO.out];obtain⟨eK,d6⟩:=aY (bs.out.trans (s.mono bs.out.size)) s;have eN:=P;have cv:=R y;obtain⟨dP,rfl⟩:=ai l;clear aO y P s cO cP cM bJ cN cQ ar av az aA aE aF aI ap ak N G I J b0 b1 aC aM aW;have eh:Hid (c.an=bh):=R (cT.out.1.trans c6.out.symm);obtain⟨op,bT⟩:∃af:ah,af=c.aH:=⟨_,rfl⟩;by_cases cj:aS ∈ L
   ·have bl:=cT.out.2.1 cj
    obtain⟨j,a1⟩:=ai (L.idxOf aS);have dA:j < L.length:=by rw[a1];exact gK cj
    have dJ:bh=(j:Int):=by rw[c6.out];unfold dU;rw[if_pos cj,a1]
    obtain⟨u,cD⟩:∃u,L[j]? =D u:=⟨_,bb dA⟩;obtain⟨fS,f9,aP,eV,eB,_,ar,av,az,aA,aE,aF⟩:=Rd.mp (by rw[cB];exact ee.out) (show j < ms.length by rw[cB];exact dA);cases eV
    have bC:=eK.out;obtain⟨G,I,J⟩:=ey (bo bN.out bC) cD;replace ar:=V ar bC;replace av:=V av bC;replace az:=V az bC;replace aA:=V aA bC;replace aE:=V aE bC;replace aF:=V aF bC;have bD:ms.getD j zeroV=aP:=by rw[cf,eB];rfl
    have ex:L.getD j el=u:=by rw[cf,cD];rfl
    have bn:=(eg.out j dA).1;rw[bD] at bn;have a9:=g0 bn;have aN:=gA (hJ bn) (by omega);have hts:=(ec.out u (cH cD)).sm;have bz:=fun(W:ac)=>m3 aP.1 aP.2.1 aP.2.2.1 aP.2.2.2.1 aP.2.2.2.2.1 aP.2.2.2.2.2 u.1 u.2.1 u.2.2 W aN a9.1 a9.2.1 a9.2.2 (by have:=hts.1;omega) (by have:=hts.1;omega) (by have:=hts.2.1;omega) (by have:=hts.2.1;omega) hts.2.2.1 hts.2.2.2;rw[show h8 aP.1 aP.2.1 aP.2.2.1 aP.2.2.2.1 aP.2.2.2.2.1 aP.2.2.2.2.2 u.1 u.2.1 u.2.2=op by rw[bT,bl,<-a1];unfold bA;rw[bD,ex];rfl] at bz;have bJ:=R bz;have fe:(0:Int)<=(j:Int):=by omega
    have f0:(j:Int)≥0:=fe;have f4:(j:Int) < (L.length:Int):=by omega
    have eP:=R bT;subst dJ;clear bl a1 cD eB bD ex bn a9 aN hts bz bT;have bI:=cv.out;obtain⟨co,z1,z2,z3,cG,cI,cJ,cK,cL,bW,bU,bV,cE,cF⟩:=hw bI
    go_wp2_with fail
    refine ir (fin:= ?z3) [10] [[S,S,S,S,S,S,S,S,S,S,Q], [Q,Q,Q,Q,Q,Q,Q,Q,Q,Q,Q]] [[9,8,3,7,2,6,0,1,4,5]] (fun x=> [O (D ⟨aJ,aK,F⟩) L.length cp, B o (j:Int), ad (D ⟨aJ,aK+j*6,F⟩),b2 aP, O (D ⟨gt,0,F⟩) L.length cx, B o (j:Int), ad (D ⟨gt,j*3,F⟩),bK u,bK op, ad (D ⟨A,9,F⟩),(x 0)]) (fun z x l=>match z with | 0=>l.cell? ⟨gt,j*3,F⟩=D (B o u.1)/\l.cell? ⟨gt,j*3+1,F⟩=D (B o u.2.1)/\l.cell? ⟨gt,j*3+2,F⟩=D (B o u.2.2)/\l.cell? ⟨aJ,aK+j*6,F⟩=D (B o aP.1)/\l.cell? ⟨aJ,aK+j*6+1,F⟩=D (B o aP.2.1)/\l.cell? ⟨aJ,aK+j*6+2,F⟩=D (B o aP.2.2.1)/\l.cell? ⟨aJ,aK+j*6+3,F⟩=D (B o aP.2.2.2.1)/\l.cell? ⟨aJ,aK+j*6+4,F⟩=D (B o aP.2.2.2.2.1)/\l.cell? ⟨aJ,aK+j*6+5,F⟩=D (B o aP.2.2.2.2.2)/\l.heap[A]? =D (Y #[B o c.e.1, B o c.e.2.1, B o c.e.2.2.1, B o c.e.2.2.2, B o (i:Int), B o c.pl.1, B o c.pl.2.1, B o c.pl.2.2, B o (j:Int), B o 0, B o 0, B o 0, B o c.kind, aa c.over] 89 (0,0))/\Below dP.heap.size dP l | _=>Hid (Below a4.heap.size a4 l)/\l.heap[A]? =D (Y #[B o c.e.1, B o c.e.2.1, B o c.e.2.2.1, B o c.e.2.2.2, B o (i:Int), B o c.pl.1, B o c.pl.2.1, B o c.pl.2.2, B o (j:Int), B o op.1, B o op.2.1, B o op.2.2, B o c.kind, aa c.over] 89 (0,0))) ?hf (by kernel_rfl) (by kernel_rfl) (fun _=>rfl) (by kernel_rfl) ?hv ⟨G,I,J,ar,av,az,aA,aE,aF,bI,aX.drew⟩ ?hA ?bi (fun x l hst=> ?he)
    case hf=>intro x;simp only[aT,a6,bd,ba,bc];exact rfl
    case hv=>
     intro x z t v h
     cases z with
     | zero=>cases h;rfl
     | succ z=>
      simp at h
    case hA=>
     intro z x l a1 hst;have a1:z<=1:=a1;rcases(show z=0∨z=1 by omega) with rfl | rfl
     ·have a5:=R hst
      obtain⟨G,I,J,ar,av,az,aA,aE,aF,y,s⟩:=hst;iterate 10 refine⟨?_,fun K M=> ?_⟩
      ·trivial
      all_goals try (go_simp;exact M _ a5.out;done)
      go_simp;exact aw (bJ.out l) fun wc a=>M _ ⟨V G a,V I a,V J a,V ar a,V av a,V az a,V aA a,V aE a,V aF a,aG y a (am y),ax s a⟩
     ·trivial
    case bi=>
     intro z t x l ht hst af bF K M
     cases z with
     | zero=>
      cases ht;cases bF
      obtain⟨G,I,J,ar,av,az,aA,aE,aF,y,s⟩:=hst;have bW:=aB y 9;have bU:=aB y 10;have bV:=aB y 11;simp only[List.getElem?_toArray,List.getElem?_cons_zero,List.getElem?_cons_succ] at bW bU bV;have eI:=br y;have eJ:=am y;go_simp;have dM:=bq (bq (bq y 9 (B o op.1)) 10 (B o op.2.1)) 11 (B o op.2.2);have er:=d6.out;have cb:=er.trans (s.mono er.size);have dw:=eN.out;have eW:=((cb.setCell (p:=⟨A,9,F⟩) dw (B o op.1)).setCell (p:=⟨A,10,F⟩) dw (B o op.2.1)).setCell (p:=⟨A,11,F⟩) dw (B o op.2.2);exact M U _ ⟨R eW,by simpa using dM⟩
     | succ z=>
      simp at ht
    obtain⟨s,y⟩:=hst;have bv:=s;have c5:=eP;have cW:=R y;obtain⟨dQ,rfl⟩:=ai l;clear s y cv bI bJ ar av az aA aE aF G I J co z1 z2 z3 cG cI cJ cK cL bW bU bV cE cF;have bI:=cW.out;obtain⟨co,z1,z2,z3,cG,cI,cJ,cK,cL,bW,bU,bV,cE,cF⟩:=hw bI;obtain⟨bx,b3,bX⟩:=cq (bo ej.out bv.out) (cA.out.below (ax ct.out bv.out)) (bs.out.trans (bv.out.mono bs.out.size));have cY:=R (uV bx.out (show dQ.heap[ge]? =D _ from b3.out) (by decide));obtain⟨c8,c9,dk,_,_⟩:=dd bx.out;subst dk;have b6:kl c= [B o c.e.1, B o c.e.2.1, B o c.e.2.2.1, B o c.e.2.2.2, B o (i:Int), B o c.pl.1, B o c.pl.2.1, B o c.pl.2.2, B o (j:Int), B o op.1, B o op.2.1, B o op.2.2, B o c.kind, aa c.over]:=by
     have h:=c5.out;unfold kl;rw[<-h,eh.out,bL.out.2.2.2.2] <;> rfl
    have bZ:=R b6;have dK:=bX.out.size;have fd:i*3+k<=3000:=by omega
    clear b6
    go_wp2_with (at_builtin;go_loud (refine i0 Tryz.underlying84 s4 rfl (by decide) (by decide) rfl (.tmp 102) (.tmp 104) rfl a3.heap.size (O c8 (i*3+k) c9) (i*3+k) (hy (d4 L ms cs (i*3+k))) [B o c.e.1, B o c.e.2.1, B o c.e.2.2.1, B o c.e.2.2.2, B o (i:Int), B o c.pl.1, B o c.pl.2.1, B o c.pl.2.2, B o (j:Int), B o op.1, B o op.2.1, B o op.2.2, B o c.kind, aa c.over] rfl bx.out dK 1 _ rfl rfl rfl (by rw[<-bZ.out];exact sY c) (by omega) ?_);intro dN cn cl cd cg;have c3:=R cl;have cR:=R cd;have cU:Hid (hk cn ge t):=R (tG cg b3.out cY.out);clear cl cd cg)
    have bO:Hid (cn.ownsRow a3.heap.size 89 14 dN (i*3+(k+1)) (hy (d4 L ms cs (i*3+(k+1))))):=R (by
     have h:=c3.out;rw[<-bZ.out] at h;rw[show i*3+(k+1)=i*3+k+1 from rfl,d9.out,s6,s7];exact h)
    have bY:=R (bX.out.trans cR.out);have fk:b7.wrap ((k:Int)+1)=((k+1:Nat):Int):=by rw[ca _ (by omega)];omega
    go_wp2;go_roundw
    case rel=>exact⟨k+1,by omega,by first | rfl | go_num,bO,cU,bY⟩
    case measure=>simp[intOf];omega
   have bl:=cT.out.2.2 cj;have dJ:bh= -1:=by rw[c6.out];unfold dU;rw[if_neg cj]
   subst dJ;rw[<-bT] at bl;subst bl;have c5:Hid (el=c.aH):=R bT;have bv:=d6;have cW:=cv;obtain⟨dQ,rfl⟩:=ai dP;clear cv bT;go_upto_region 15 with fail
   have bI:=cW.out;obtain⟨co,z1,z2,z3,cG,cI,cJ,cK,cL,bW,bU,bV,cE,cF⟩:=hw bI;obtain⟨bx,b3,bX⟩:=cq (bo ej.out bv.out) (cA.out.below (ax ct.out bv.out)) (bs.out.trans (bv.out.mono bs.out.size));have cY:=R (uV bx.out (show dQ.heap[ge]? =D _ from b3.out) (by decide));obtain⟨c8,c9,dk,_,_⟩:=dd bx.out;subst dk;have b6:kl c= [B o c.e.1, B o c.e.2.1, B o c.e.2.2.1, B o c.e.2.2.2, B o (i:Int), B o c.pl.1, B o c.pl.2.1, B o c.pl.2.2, B o (-1), B o 0, B o 0, B o 0, B o c.kind, aa c.over]:=by
    have h:=c5.out;unfold kl;rw[<-h,eh.out,bL.out.2.2.2.2] <;> rfl
   have bZ:=R b6;have dK:=bX.out.size;have fd:i*3+k<=3000:=by omega
   clear b6
   go_wp2_with (at_builtin;go_loud (refine i0 Tryz.underlying84 s4 rfl (by decide) (by decide) rfl (.tmp 102) (.tmp 104) rfl a3.heap.size (O c8 (i*3+k) c9) (i*3+k) (hy (d4 L ms cs (i*3+k))) [B o c.e.1, B o c.e.2.1, B o c.e.2.2.1, B o c.e.2.2.2, B o (i:Int), B o c.pl.1, B o c.pl.2.1, B o c.pl.2.2, B o (-1), B o 0, B o 0, B o 0, B o c.kind, aa c.over] rfl bx.out dK 1 _ rfl rfl rfl (by rw[<-bZ.out];exact sY c) (by omega) ?_);intro dN cn cl cd cg;have c3:=R cl;have cR:=R cd;have cU:Hid (hk cn ge t):=R (tG cg b3.out cY.out);clear cl cd cg)
   have bO:Hid (cn.ownsRow a3.heap.size 89 14 dN (i*3+(k+1)) (hy (d4 L ms cs (i*3+(k+1))))):=R (by
    have h:=c3.out;rw[<-bZ.out] at h;rw[show i*3+(k+1)=i*3+k+1 from rfl,d9.out,s6,s7];exact h)
   have bY:=R (bX.out.trans cR.out);have fk:b7.wrap ((k:Int)+1)=((k+1:Nat):Int):=by rw[ca _ (by omega)];omega
   go_wp2;go_roundw
   case rel=>exact⟨k+1,by omega,by first | rfl | go_num,bO,cU,bY⟩
   case measure=>simp[intOf];omega
  obtain rfl:k=3:=by omega
  have bO:=bp;rw[show i*3+3=(i+1)*3 by omega] at bO;have bY:=es;have f8:b7.wrap ((i:Int)+1)=((i+1:Nat):Int):=by rw[ca _ (by omega)];omega
  clear bp;go_wp2;go_roundw
  case rel=>exact⟨i+1,by omega,by first | rfl | go_num,bO,bY⟩
  case measure=>simp[intOf];omega
 obtain rfl:i=L.length:=by omega
 have eQ:=bp;have eL:=R (dX.out.trans (ce.out.mono eE));have cC:¬((L.length:Int) < (L.length:Int)):=by omega
 clear bp ce;go_wp2;exact bodyPost_ret (v:=u6) (by simp[results,Tryz.results32,go_sem]) rfl ⟨u6,rfl,dn eQ.out eE,eL.out⟩
end
section
set_option maxRecDepth 100000
open Go.RowKit Go.Maps
theorem gz(c:bU)(w:ac):bB aj 82 #[cC c] w fun r Z=>r= .returned (aa c.fold)/\Below w.heap.size w Z:=by
 have bg:=aQ w (Y #[B o c.e.1, B o c.e.2.1, B o c.e.2.2.1, B o c.e.2.2.2, B o (c.ay:Int), B o c.pl.1, B o c.pl.2.1, B o c.pl.2.2, B o c.an, B o c.aH.1, B o c.aH.2.1, B o c.aH.2.2, B o c.kind, aa c.over] 89);have s:=aV w (Y #[B o c.e.1, B o c.e.2.1, B o c.e.2.2.1, B o c.e.2.2.2, B o (c.ay:Int), B o c.pl.1, B o c.pl.2.1, B o c.pl.2.2, B o c.an, B o c.aH.1, B o c.aH.2.1, B o c.aH.2.2, B o c.kind, aa c.over] 89);obtain⟨a1,c1,c2,bV,bC,b8,dk,jC,i2,hr,kW,kX,nW,mH⟩:=hw bg;have E:∀Z,(binOp .eql 53 (aq #[B o c.aH.1, B o c.aH.2.1, B o c.aH.2.2]) (aq #[B o c.pl.1, B o c.pl.2.1, B o c.pl.2.2])).run aj Z= .ok (aa (au (c.aH=c.pl))) Z:=fun Z=>by
  have h:=n5 c.aH.1 c.aH.2.1 c.aH.2.2 c.pl.1 c.pl.2.1 c.pl.2.2 Z;rw[jE] at h;exact h
 obtain⟨z,i⟩:=ai (c.fold);rw[<-i];obtain⟨b,k⟩:=ai ((au (c.aH=c.pl)));rw[<-k] at E;have y:=R s;by_cases h0:0<=c.an
 ·have A:c.an≥0:=h0
  have g:z=b:=by rw[i,k,bU.fold,decide_eq_true h0,ib]
  have l:=R g;clear i k bg s g;go_in;go_wp2;go_ret;exact⟨cW l.out.symm,y.out⟩
 have A:¬c.an≥0:=h0;have g:z=Q:=by rw[i,bU.fold,decide_eq_false h0,dG]
 have l:=R g;clear i k bg s g;go_in;go_wp2;go_ret;exact⟨cW l.out.symm,y.out⟩
theorem gV(c:bU)(w:ac):bB aj 83 #[cC c] w fun r Z=>r= .returned (aa c.goes)/\Below w.heap.size w Z:=by
 have bg:=aQ w (Y #[B o c.e.1, B o c.e.2.1, B o c.e.2.2.1, B o c.e.2.2.2, B o (c.ay:Int), B o c.pl.1, B o c.pl.2.1, B o c.pl.2.2, B o c.an, B o c.aH.1, B o c.aH.2.1, B o c.aH.2.2, B o c.kind, aa c.over] 89);have s:=aV w (Y #[B o c.e.1, B o c.e.2.1, B o c.e.2.2.1, B o c.e.2.2.2, B o (c.ay:Int), B o c.pl.1, B o c.pl.2.1, B o c.pl.2.2, B o c.an, B o c.aH.1, B o c.aH.2.1, B o c.aH.2.2, B o c.kind, aa c.over] 89);obtain⟨a1,c1,c2,bV,bC,b8,dk,jC,i2,hr,kW,kX,nW,mH⟩:=hw bg;have E:∀Z,(binOp .neq 53 (aq #[B o c.aH.1, B o c.aH.2.1, B o c.aH.2.2]) (aq #[B o c.pl.1, B o c.pl.2.1, B o c.pl.2.2])).run aj Z= .ok (aa (!au (c.aH=c.pl))) Z:=fun Z=>by
  have h:=jJ c.aH.1 c.aH.2.1 c.aH.2.2 c.pl.1 c.pl.2.1 c.pl.2.2 Z;rw[jE] at h;exact h
 obtain⟨z,i⟩:=ai (c.goes);rw[<-i];obtain⟨b,k⟩:=ai ((!au (c.aH=c.pl)));rw[<-k] at E;have y:=R s;by_cases h0:0<=c.an
 ·have A:c.an≥0:=h0
  have g:z=b:=by rw[i,k,bU.goes,decide_eq_true h0,ib]
  have l:=R g;clear i k bg s g;go_in;go_wp2;go_ret;exact⟨cW l.out.symm,y.out⟩
 have A:¬c.an≥0:=h0;have g:z=Q:=by rw[i,bU.goes,decide_eq_false h0,dG]
 have l:=R g;clear i k bg s g;go_in;go_wp2;go_ret;exact⟨cW l.out.symm,y.out⟩
theorem kV(h a b:Int)(w:ac):bB aj 84 #[B o h, B o a, B o b] w fun r Z=>r= .returned (aa (jB h a b))/\Below w.heap.size w Z:=by
  have g:Hid (Below w.heap.size w w):=R aX;unfold jB
  by_cases h1:a < h <;> by_cases ab:h < b <;> by_cases ag:b < h <;> by_cases az:h < a <;>
    (simp only[h1,ab,ag,az,decide_true,decide_false,Bool.and_true,Bool.and_false,Bool.or_true,Bool.or_false]
     go_in;go_wp2;go_ret;exact⟨rfl,g.out⟩)
end
section
set_option maxRecDepth 100000
open Go.RowKit Go.Maps
theorem AE(x:bU)(h:List Int)(k s n P:Nat)(w:ac)(hh:Rd w 1 (D ⟨k,s,F⟩) n (bF h))(h0:∀i:Nat,i < n->0<=be h i)(aE:x.ay < n)(ak:x.an= -1∨∃j:Nat,j < n/\x.an=(j:Int))(hn:n<=140737488351232):
  bB aj 34 #[cC x, O (D ⟨k,s,F⟩) n P] w fun r Z=>r= .returned (aa (ij h x))/\Below w.heap.size w Z:=by
 have aF:=aQ w (Y #[B o x.e.1, B o x.e.2.1, B o x.e.2.2.1, B o x.e.2.2.2, B o (x.ay:Int), B o x.pl.1, B o x.pl.2.1, B o x.pl.2.2, B o x.an, B o x.aH.1, B o x.aH.2.1, B o x.aH.2.2, B o x.kind, aa x.over] 89);have ar:=aV w (Y #[B o x.e.1, B o x.e.2.1, B o x.e.2.2.1, B o x.e.2.2.2, B o (x.ay:Int), B o x.pl.1, B o x.pl.2.1, B o x.pl.2.2, B o x.an, B o x.aH.1, B o x.aH.2.1, B o x.aH.2.2, B o x.kind, aa x.over] 89);obtain⟨aM,aN,aR,aS,I,aU,aW,aX,J,aZ,aO,aP,E,M⟩:=hw aF;have av:=hh.below ar;have am:=fun W:ac=>gz x W;obtain⟨a0,c⟩:=ai (ij h x);rw[<-c];unfold ij at c;have ag:=R ar
 cases hf:x.fold with
 | false=>
  simp only[hf] at am;have al:=R am;have aL:a0=Q:=by rw[c,hf];rfl
  have G:=R aL;clear aL c am aF ar av hh h0 hf;go_in
  go_wp2_with fail
  generalize w.alloc (Y #[B o x.e.1, B o x.e.2.1, B o x.e.2.2.1, B o x.e.2.2.2, B o (x.ay:Int), B o x.pl.1, B o x.pl.2.1, B o x.pl.2.2, B o x.an, B o x.aH.1, B o x.aH.2.1, B o x.aH.2.2, B o x.kind, aa x.over] 89)=w1 at aM aN aR aS I aU aW aX J aZ aO aP E M ag |-
  go_wp2_with (go_at_call 82;refine aw (al.out _) fun ab a=> ?_;have N:=R (ax ag.out a);clear a)
  go_ret;exact⟨cW G.out.symm,N.out⟩
 | true=>
  simp only[hf] at am;have al:=R am;obtain⟨bi,a2,ak⟩:∃j:Nat,j < n/\x.an=(j:Int):=by
   rcases ak with ak | ak
   ·exfalso;unfold bU.fold at hf;rw[ak] at hf;simp at hf
   ·exact ak
  have l:=er av aE;have a3:(0:Int)<=x.an:=by omega
  have bf:x.an < (n:Int):=by omega
  have aI:((x.an.toNat:Nat):Int)=x.an:=Int.toNat_of_nonneg a3;have g:=er av (show x.an.toNat < n by omega);have a1:=h0 _ aE;have aG:=h0 x.an.toNat (by omega);rw[aI] at g aG;rw[hf] at c;have G:=R c;obtain⟨z,aB⟩:=ai (be h (x.ay:Int));obtain⟨A,aC⟩:=ai (be h x.an);rw[<-aB] at l a1;rw[<-aC] at g aG;obtain⟨ao,ap⟩:=aY aB aC;have bg:(0:Int)<=(x.ay:Int):=by omega
  have bh:(x.ay:Int) < (n:Int):=by omega
  have a8:¬z < 0:=by omega
  have a9:¬A < 0:=by omega
  clear c am aF ar av hh h0 hf ak aB aC aE a2 aI;go_in
  go_wp2_with fail
  generalize w.alloc (Y #[B o x.e.1, B o x.e.2.1, B o x.e.2.2.1, B o x.e.2.2.2, B o (x.ay:Int), B o x.pl.1, B o x.pl.2.1, B o x.pl.2.2, B o x.an, B o x.aH.1, B o x.aH.2.1, B o x.aH.2.2, B o x.kind, aa x.over] 89)=w1 at aM aN aR aS I aU aW aX J aZ aO aP E M l g ag |-;obtain⟨a4,aK⟩:=ai (x.over);obtain⟨cK,aJ⟩:=ai (x.kind);rw[<-aK] at G M;rw[<-aJ] at G E;have c:=G.out;clear G aK aJ;by_cases T:cK=2 <;> cases a4
  ·rw[decide_eq_true T] at c
   have aD:(cK==2)=S:=by simpa using T
   simp only[ib,cond_true,cond_false,<-ao.out,<-ap.out] at c;have G:=R c;clear c
   go_wp2_with (go_at_call 82;refine aw (al.out _) fun ab a=> ?_;have N:=R (ax ag.out a);replace I:=V I a;replace J:=V J a;replace E:=V E a;replace M:=V M a;replace l:=V l a;replace g:=V g a;clear a)
   refine bW (fin:= ?z1) [O (D ⟨k,s,F⟩) n P, B o (x.ay:Int), ad (D ⟨k,s+x.ay,F⟩), B o z, O (D ⟨k,s,F⟩) n P, B o x.an, ad (D ⟨k,s+x.an.toNat,F⟩), B o A, aa (au (A < z)), aa (au (A < z))] ?hf bp (by kernel_rfl) rfl fun y b=> ?_;case hf=>simp only[aT,a6,bd,ba,bc];exact rfl
   have ah:=R b;have l:=V l b;have g:=V g b;constructor
   ·iterate 10 refine⟨?_,fun K L=> ?_⟩
    ·trivial
    all_goals try (go_simp;exact L _ ah.out;done)
   have af:=R (ax N.out b);clear b;go_wp2;go_ret;exact⟨cW G.out.symm,af.out⟩
  ·rw[decide_eq_true T] at c
   have aD:(cK==2)=S:=by simpa using T
   simp only[ib,cond_true,cond_false,<-ao.out,<-ap.out] at c;have G:=R c;clear c
   go_wp2_with (go_at_call 82;refine aw (al.out _) fun ab a=> ?_;have N:=R (ax ag.out a);replace I:=V I a;replace J:=V J a;replace E:=V E a;replace M:=V M a;replace l:=V l a;replace g:=V g a;clear a)
   refine bW (fin:= ?z2) [ad (D ⟨w.heap.size,8,F⟩), B o x.an, ad (D ⟨w.heap.size,4,F⟩), B o (x.ay:Int), B o x.an, B o (x.ay:Int)] ?hf bp (by kernel_rfl) rfl fun y hst=> ?_;case hf=>simp only[aT,a6,bd,ba,bc];exact rfl
   have aA:=R hst;have b:=hst;obtain⟨I,J,E,l,g⟩:=mc b I J E l g;constructor
   ·iterate 6 refine⟨?_,fun K L=> ?_⟩
    ·trivial
    all_goals try (go_simp;exact L _ aA.out;done)
   have az:=R b;clear b
   go_wp2_with fail
   obtain⟨a5,rfl⟩:=ai y;refine dR (fin:= ?z3) [O (D ⟨k,s,F⟩) n P, B o x.an, ad (D ⟨k,s+x.an.toNat,F⟩), B o A, O (D ⟨k,s,F⟩) n P, B o (x.ay:Int), ad (D ⟨k,s+x.ay,F⟩), B o z, aa (au (z < A)), aa (au (z < A))] (fun y=>y.cell? ⟨k,s+x.ay,F⟩=D (B o z)/\y.cell? ⟨k,s+x.an.toNat,F⟩=D (B o A)/\Below ab.heap.size ab y) ?hf bp (by kernel_rfl) rfl ⟨l,g,az.out.drew⟩ fun y hst=> ?_;case hf=>simp only[aT,a6,bd,ba,bc];exact rfl
   have ah:=R hst;obtain⟨l,g,b⟩:=hst;constructor
   ·iterate 10 refine⟨?_,fun K L=> ?_⟩
    ·trivial
    all_goals try (go_simp;exact L _ ah.out;done)
   have af:=R (ax N.out b);clear b;go_wp2;go_ret;exact⟨cW G.out.symm,af.out⟩
  ·rw[decide_eq_false T] at c
   have aD:(cK==2)=Q:=by simpa using T
   simp only[ib,cond_true,cond_false,<-ao.out,<-ap.out] at c;have G:=R c;clear c
   go_wp2_with (go_at_call 82;refine aw (al.out _) fun ab a=> ?_;have N:=R (ax ag.out a);replace I:=V I a;replace J:=V J a;replace E:=V E a;replace M:=V M a;replace l:=V l a;replace g:=V g a;clear a)
   refine bW (fin:= ?z4) [O (D ⟨k,s,F⟩) n P, B o (x.ay:Int), ad (D ⟨k,s+x.ay,F⟩), B o z, O (D ⟨k,s,F⟩) n P, B o x.an, ad (D ⟨k,s+x.an.toNat,F⟩), B o A, aa (au (z < A)), aa (au (z < A))] ?hf bp (by kernel_rfl) rfl fun y b=> ?_;case hf=>simp only[aT,a6,bd,ba,bc];exact rfl
   have ah:=R b;have l:=V l b;have g:=V g b;constructor
   ·iterate 10 refine⟨?_,fun K L=> ?_⟩
    ·trivial
    all_goals try (go_simp;exact L _ ah.out;done)
   have af:=R (ax N.out b);clear b;go_wp2;go_ret;exact⟨cW G.out.symm,af.out⟩
  rw[decide_eq_false T] at c;have aD:(cK==2)=Q:=by simpa using T
  simp only[ib,cond_true,cond_false,<-ao.out,<-ap.out] at c;have G:=R c;clear c
  go_wp2_with (go_at_call 82;refine aw (al.out _) fun ab a=> ?_;have N:=R (ax ag.out a);replace I:=V I a;replace J:=V J a;replace E:=V E a;replace M:=V M a;replace l:=V l a;replace g:=V g a;clear a)
  refine bW (fin:= ?z5) [ad (D ⟨w.heap.size,8,F⟩), B o x.an, ad (D ⟨w.heap.size,4,F⟩), B o (x.ay:Int), B o x.an, B o (x.ay:Int)] ?hf bp (by kernel_rfl) rfl fun y hst=> ?_;case hf=>simp only[aT,a6,bd,ba,bc];exact rfl
  have aA:=R hst;have b:=hst;obtain⟨I,J,E,l,g⟩:=mc b I J E l g;constructor
  ·iterate 6 refine⟨?_,fun K L=> ?_⟩
   ·trivial
   all_goals try (go_simp;exact L _ aA.out;done)
  have az:=R b;clear b
  go_wp2_with fail
  obtain⟨a5,rfl⟩:=ai y;refine dR (fin:= ?z6) [O (D ⟨k,s,F⟩) n P, B o x.an, ad (D ⟨k,s+x.an.toNat,F⟩), B o A, O (D ⟨k,s,F⟩) n P, B o (x.ay:Int), ad (D ⟨k,s+x.ay,F⟩), B o z, aa (au (A < z)), aa (au (A < z))] (fun y=>y.cell? ⟨k,s+x.ay,F⟩=D (B o z)/\y.cell? ⟨k,s+x.an.toNat,F⟩=D (B o A)/\Below ab.heap.size ab y) ?hf bp (by kernel_rfl) rfl ⟨l,g,az.out.drew⟩ fun y hst=> ?_;case hf=>simp only[aT,a6,bd,ba,bc];exact rfl
  have ah:=R hst;obtain⟨l,g,b⟩:=hst;constructor
  ·iterate 10 refine⟨?_,fun K L=> ?_⟩
   ·trivial
   all_goals try (go_simp;exact L _ ah.out;done)
  have af:=R (ax N.out b);clear b;go_wp2;go_ret;exact⟨cW G.out.symm,af.out⟩
end
section
open Go.RowKit Go.Maps
theorem qO{w:ac}{g n c s:Nat}{l:List bU}(h:w.ownsRow s 89 14 (O (D ⟨g,0,F⟩) n c) n (hy l)){i:Nat}{x:bU}(r:l[i]? =D x)(hn:n=l.length):w.cell? ⟨g,i*14,F⟩=D (B o x.e.1)/\w.cell? ⟨g,i*14+1,F⟩=D (B o x.e.2.1)/\w.cell? ⟨g,i*14+2,F⟩=D (B o x.e.2.2.1)/\w.cell? ⟨g,i*14+3,F⟩=D (B o x.e.2.2.2)/\w.cell? ⟨g,i*14+4,F⟩=D (B o (x.ay:Int))/\w.cell? ⟨g,i*14+5,F⟩=D (B o x.pl.1)/\w.cell? ⟨g,i*14+6,F⟩=D (B o x.pl.2.1)/\w.cell? ⟨g,i*14+7,F⟩=D (B o x.pl.2.2)/\w.cell? ⟨g,i*14+8,F⟩=D (B o x.an)/\w.cell? ⟨g,i*14+9,F⟩=D (B o x.aH.1)/\w.cell? ⟨g,i*14+10,F⟩=D (B o x.aH.2.1)/\w.cell? ⟨g,i*14+11,F⟩=D (B o x.aH.2.2)/\w.cell? ⟨g,i*14+12,F⟩=D (B o x.kind)/\w.cell? ⟨g,i*14+13,F⟩=D (aa x.over):=by
 have al:=(bM.1 r).1;obtain⟨b,A,e,_,hc⟩:=(Rd.dB h).2 (by omega);cases e
 have q:=fun j u y=>hc _ u (i4 xL (j:=j) r y);simp only[Nat.zero_add] at q;exact⟨q 0 _ rfl,q 1 _ rfl,q 2 _ rfl,q 3 _ rfl,q 4 _ rfl,q 5 _ rfl,q 6 _ rfl,q 7 _ rfl,q 8 _ rfl,q 9 _ rfl,q 10 _ rfl,q 11 _ rfl,q 12 _ rfl,q 13 _ rfl⟩
theorem rL(l:List bP)(c:bP):(ej l c).length<=l.length+1:=by
 unfold ej;split;·omega
 ·rw[List.length_append,List.length_cons,List.length_take,List.length_drop];omega
theorem CM(l:List bU)(h:List Int)(x:bU)(i:Nat)(out:List bP)(k:Nat):(fH l h x i out k).length<=out.length+1:=by
 unfold fH;split
 ·rw[Bool.cond_eq_ite]
  split
  ·exact rL _ _
  ·omega
 ·omega
theorem tz(l:List bU)(h:List Int)(x:bU)(i:Nat)(out:List bP)(n:Nat):((c4 n).foldl (fH l h x i) out).length<=out.length+n:=by
 induction n with
 | zero=>simp
 | succ n z=>rw[ni];have:=CM l h x i ((c4 n).foldl (fH l h x i) out) n;omega
theorem CJ(l:List bU)(h:List Int)(out:List bP)(i:Nat):(gG l h out i).length<=out.length+1+l.length:=by
 unfold gG;split
 ·refine Nat.le_trans (tz _ _ _ _ _ _) ?_
  rw[Bool.cond_eq_ite];split;·have:=rL out;rename_i x _ _;have:=this (x.e,4);omega
  ·omega
 ·omega
theorem yv(l:List bU)(h:List Int)(n:Nat):((c4 n).foldl (gG l h) []).length<=n*(1+l.length):=by
 induction n with
 | zero=>simp
 | succ n z=>rw[ni,Nat.succ_mul];have:=CJ l h ((c4 n).foldl (gG l h) []) n;omega
theorem AO(a b:aO)(w:ac):(binOp .neq 42 (aq #[B o a.1, B o a.2.1, B o a.2.2.1, B o a.2.2.2]) (aq #[B o b.1, B o b.2.1, B o b.2.2.1, B o b.2.2.2])).run aj w= .ok (aa (!au (a=b))) w:=by
 rw[AN]
 congr 3
 rw[Bool.eq_iff_iff];exact(hB a b).trans decide_eq_true_iff.symm
theorem AP(a b:ah)(w:ac):(binOp .neq 53 (aq #[B o a.1, B o a.2.1, B o a.2.2]) (aq #[B o b.1, B o b.2.1, B o b.2.2])).run aj w= .ok (aa (!au (a=b))) w:=by
 rw[jJ,jE]
end
section
open Go.RowKit Go.Maps
variable {cs:List bw}{mask:List Int}{sts:List aP}{L:List ah}{ms:List aR}
theorem A1{W H:Int}(h:fu W H mask cs=S):∃y E:Nat,W=y/\H=E/\(1<=y/\y<=8)/\(1<=E/\E<=8)/\mask.length=y*E:=by
 unfold fu at h;simp only[cu,iB,decide_eq_true_eq] at h;obtain⟨⟨⟨⟨h1,ab⟩,ag⟩,_⟩,_⟩:=h;obtain⟨y,rfl⟩:=lo (show 0<=W by omega);obtain⟨E,rfl⟩:=lo (show 0<=H by omega);refine⟨y,E,rfl,rfl,by omega,by omega, ?_⟩;have:(mask.length:Int)=((y*E:Nat):Int):=by rw[ag];simp
 omega
theorem At(sts:List aP)(t:ah): -1<=cy sts t/\cy sts t<=((sts.flatMap (·.2)).length:Int):=by
 induction sts with
 | nil=>simp[cy]
 | cons s r aE=>
  unfold cy;rw[List.flatMap_cons,List.length_append];split
  ·have:=gK (by assumption:t ∈ s.2)
   omega
  ·omega
structure wK(y E:Nat)(mask:List Int)(cs:List bw)(ms:List aR)(sts:List aP):Prop where
 jQ:nT (bG y mask) ms ((bG y mask).map (cy sts)) (fY cs) cs
 dS:eo (bG y mask) ms sts
 pos:0 < (bG y mask).length
 l0:(bG y mask).length<=300
 low:∀i:Nat,i < (bG y mask).length->0<=be ((bG y mask).map (cy sts)) i
 may:∀m ∈ ms,bf m=S
 i8:∀z ∈ (bG y mask).map (cy sts), -1<=z/\z<=1000
theorem CD{y E:Nat}(N:iz y E mask cs ms sts)(hW:1<=y/\y<=8)(am:1<=E/\E<=8)(aB:mask.length=y*E):wK y E mask cs ms sts:=by
 have Z:=py N.lf;have J:=uK N.lf;have K:=N.maps;have M:=N.pT;rw[lp] at J Z K M;have hL:∀t ∈ bG y mask,eD t:=fun t ht=>by
  have:=lg (by omega) aB ht;exact⟨by omega,by omega,this.2.2.2.2⟩
 have ay:(bG y mask).length<=300:=by
  have h1:=ny y mask;have ab:y*E<=8*8:=Nat.mul_le_mul hW.2 am.2;omega
 have hnd:=nt (pF (by omega) mask _:(bG y mask).Pairwise c3);have an:0 < (bG y mask).length:=by
  cases av:bG y mask with
  | nil=>rw[av] at J;simp[gc] at J
  | cons a aD=>simp
 refine⟨⟨hnd,hL,by omega,K,by rw[List.length_map],fun e=>rm Z e⟩,M,an,ay,fun i al=> ?_,fun m aA=> ?_,fun z aI=> ?_⟩
 ·have ht:=List.getElem_mem al
  have h1:=Av hnd M ht;unfold be;rw[lp,cf,List.getElem?_map,bb al];exact h1
 ·obtain⟨i,al⟩:=List.getElem?_of_mem aA
  have aw:=(bM.1 al).1;have h1:=(K.may i (by rw[<-K.len];exact aw)).1;rw[cf,al] at h1;exact h1
 obtain⟨t,ht,rfl⟩:=j6.1 aI;have h1:=At sts t;rw[M.many] at h1;omega
theorem Dh{C:aO->Bool}(hnd:L.Nodup)(bL:∀t ∈ L,eD t)(ao:fp L C ms)(ap:eo L ms sts):∀i j,i < L.length->j < L.length->i≠j->dD (ek (ms.getD i zeroV)) (L.getD i el)=dD (ek (ms.getD j zeroV)) (L.getD j el)->((L.map (cy sts)).map fun z=>-z).getD i 0≠((L.map (cy sts)).map fun z=>-z).getD j 0:=fun i j al J aC e=>by
 have aI:∀i,((L.map (cy sts)).map fun z=>-z).getD i 0= -((L.map (cy sts)).getD i 0):=fun i=>by
  rw[cf,cf,List.getElem?_map];cases (L.map (cy sts))[i]? <;> rfl
 have key:∀k,k < L.length->dD (ek (ms.getD k zeroV)) (L.getD k el)=k2 (bA L ms k):=fun k R=>by
  have P:=g0 (ao.may k R).1;have ht:L.getD k el ∈ L:=by rw[cf,bb R];exact List.getElem_mem R
  exact uv P.1 P.2.1 P.2.2 (bL _ ht).2.2
 rw[key i al,key j J] at e;have V:=oa hnd ap (bb al) (bb J) aC (tw e);rw[aI,aI];unfold be at V;intro h;apply V
 simp only[lp];omega
theorem yR{A:Nat->ah}{aI:List Int}(hnd:L.Nodup)(ar:∀i j,i < L.length->j < L.length->i≠j->A i=A j->aI.getD i 0≠aI.getD j 0)(hL:∀t ∈ L,eD t)(av:L.length<=300)(hA:∀i,i < L.length->kH (A i)=S):
  (∀s ∈ d5 L A aI L.length,(bj s.1.1/\bj s.1.2.1/\bj s.1.2.2)/\∀t ∈ s.2,bj t.1/\bj t.2.1/\bj t.2.2)/\(∀s ∈ d5 L A aI L.length,s.2.length<=140737488351232)/\(d5 L A aI L.length).length<=140737488351232:=by
 have H:=re hnd ar (Nat.le_refl L.length);have ax:∀t ∈ L,bj t.1/\bj t.2.1/\bj t.2.2:=fun t ht=>by
  have:=hL t ht;have ab:=this.2.2;have ag:=this.1;have az:=this.2.1;refine⟨?_, ?_, ?_⟩ <;> (unfold bj;unfold dN at ab;omega)
 have ai:∀s ∈ d5 L A aI L.length,∀u ∈ s.2,u ∈ L:=fun s G u T=>by
  obtain⟨i,_,_,h⟩:=(H.mem s G u).1 T;exact cH h
 have af:∀s ∈ d5 L A aI L.length,∃i,i < L.length/\A i=s.1:=fun s G=>by
  obtain⟨u,T⟩:=List.exists_mem_of_ne_nil _ (H.ne s G);obtain⟨i,h1,ab,_⟩:=(H.mem s G u).1 T;exact⟨i,h1,ab⟩
 refine⟨fun s G=>⟨?_,fun t ht=>ax t (ai s G t ht)⟩,fun s G=> ?_, ?_⟩
 ·obtain⟨i,al,e⟩:=af s G
  have h1:=hA i al;rw[e] at h1;unfold kH eg cJ at h1;simp only[cu,decide_eq_true_eq] at h1;unfold bj;omega
 ·have hn:s.2.Nodup:=(H.up s G).imp fun {a b} h e=>by subst e;exact absurd h (by simp)
  have:=ik hn (ai s G);omega
 have hn:((d5 L A aI L.length).map (·.1)).Nodup:=by
  rw[List.nodup_iff_pairwise_ne,List.pairwise_map];exact H.lt.imp fun {a b} h e=>by rw[e] at h;exact gg _ h
 have h1:=ik hn (l:=(c4 L.length).map A) (fun x I=>by
  obtain⟨s,G,rfl⟩:=j6.1 I;obtain⟨i,al,e⟩:=af s G;exact j6.2 ⟨i,List.mem_range.2 al,e⟩)
 simp at h1;omega
theorem sR{w:ac}{g n c ak:Nat}{l:List bP}(h:w.ownsRow ak 44 5 (O (D ⟨g,0,F⟩) n c) n (cV l)){j:Nat}{x:bP}(I:l[j]? =D x):w.cell? ⟨g,j*5,F⟩=D (B o x.1.1)/\w.cell? ⟨g,j*5+1,F⟩=D (B o x.1.2.1)/\w.cell? ⟨g,j*5+2,F⟩=D (B o x.1.2.2.1)/\w.cell? ⟨g,j*5+3,F⟩=D (B o x.1.2.2.2)/\w.cell? ⟨g,j*5+4,F⟩=D (B o x.2):=
 ⟨fy (Rd.dB h) (i4 (j:=0) kj I rfl),fy (Rd.dB h) (i4 (j:=1) kj I rfl),fy (Rd.dB h) (i4 (j:=2) kj I rfl),fy (Rd.dB h) (i4 (j:=3) kj I rfl),fy (Rd.dB h) (i4 (j:=4) kj I rfl)⟩
end
section
section
open Go.RowKit Go.Maps
abbrev fc:Type:=Nat×Int
def ja(x:fc):List ae:= [B o (x.1:Int), B o x.2]
def hK(l:List fc):List ae:=l.flatMap ja
theorem ux(x:fc):(ja x).length=2:=rfl
theorem uA(l m:List fc):hK (l++m)=hK l++hK m:=by simp[hK]
theorem uB(x:fc):hK [x]=ja x:=by simp[hK]
theorem uw(x:fc):∀u ∈ ja x,u.oneCell'=S:=by
 intro u A;simp only[ja,List.mem_cons,List.not_mem_nil,or_false] at A;rcases A with rfl | rfl <;> rfl
theorem uz:(Tryz.prog.info? 106).map (fun i=>(i.zero,i.size,i.bytes))=D (D (aq #[B o 0, B o 0]),2,16):=by kernel_rfl
theorem DD(w:ac):(zeroValue 104).run aj w= .ok (O F 0 0) w:=by kernel_rfl
def kr:ke aO ae where
 K:=42
 enc t:=bS t
 ok t:=bj t.1/\bj t.2.1/\bj t.2.2.1/\bj t.2.2.2
 law:=Keyed.of_law ph
 key a h:=tU h.1 h.2.1 h.2.2.1 h.2.2.2
 inj a b h:=e8.inj a b h
 T:=102
 E:=104
 val v:=v
 z:= O F 0 0
 ht:=Tryz.underlying102
 aI:=DD
structure gu(w:ac)(s b n:Nat)(f:aO->Option ae)(g:aO->List fc):Prop where
 map:cY kr w b n f
 no:∀t,f t=F->g t= []
 row:∀t v,f t=D v->w.ownsRow s 106 2 v (g t).length (hK (g t))/\g t≠ []
 e6:∀t M v a8,t≠M->f t=D v->f M=D a8->v.ownBlock≠a8.ownBlock
variable {w Z:ac} {s b n:Nat} {f:aO->Option ae} {g:aO->List fc}
theorem gu.made(w:ac)(s:Nat):gu (w.alloc (.map #[] 0)) s w.heap.size 0 (fun _=>F) (fun _=> []):=
 ⟨cY.made _ _,fun _ _=>rfl,fun t v h=>(by cases h),fun t M v a8 _ h=>(by cases h)⟩
theorem gu.of_map(h:cY kr w b n (fun _=>F))(s:Nat):gu w s b n (fun _=>F) (fun _=> []):=
 ⟨h,fun _ _=>rfl,fun t v h=>(by cases h),fun t M v a8 _ h=>(by cases h)⟩
theorem gu.below(h:gu w s b n f g)(ag:Below w.heap.size w Z):gu Z s b n f g:=
 ⟨h.map.stay ag,h.no,fun t v G=>⟨nb (h.row t v G).1 ag ce,(h.row t v G).2⟩,h.e6⟩
theorem gu.other(h:gu w s b n f g){r:Nat}(ah:w.grownBy Z (D r))(ax:r≠b)(hn:∀t v,f t=D v->v.ownBlock≠D r):gu Z s b n f g:=
 ⟨h.map.grown ah (fun e=>ax (Option.some.inj e).symm),h.no,fun t v G=>⟨(h.row t v G).1.kept ah (.inr (hn t v G)),(h.row t v G).2⟩,h.e6⟩
theorem gu.val(h:gu w s b n f g)(t:aO):w.ownsRow s 106 2 ((f t).getD (O F 0 0)) (g t).length (hK (g t)):=by
 cases hf:f t with
 | none=>rw[h.no t hf];exact World.ownsRow_nil _ _ _ _
 | some v=>exact(h.row t v hf).1
theorem gu.put{am N P:ac}(h:gu w s b n f g)(ao:w.grownBy am (D b)){t:aO}{a8:ae}{z:fc}(aw:N.ownsRow s 106 2 a8 ((g t).length+1) (hK (g t++ [z])))(ap:am.grownBy N ((f t).getD (O F 0 0)).ownBlock)
  (af:a8.ownBlock=((f t).getD (O F 0 0)).ownBlock∨∃q,a8.ownBlock=D q/\w.heap.size<=q) (ar:cY kr P b (n+1) (it f t a8)) (ai:N.grownBy P (D b)) (al:∀t v,f t=D v->v.ownBlock≠D b) (az:a8.ownBlock≠D b):
  gu P s b (n+1) (it f t a8) (fun x=>if x=t then g t++ [z] else g x):=by
 refine⟨ar,fun x k=> ?_,fun x v k=> ?_,fun x y v u L k I=> ?_⟩
 ·by_cases e:x=t
  ·subst e
   rw[iu] at k;cases k
  rw[hN _ _ e] at k;rw[if_neg e];exact h.no x k
 ·by_cases e:x=t
  ·subst e
   rw[iu] at k;cases k
   rw[if_pos rfl];refine⟨?_,by simp⟩;have:=aw.kept ai (.inr az);simpa using this
  rw[hN _ _ e] at k;rw[if_neg e];have h0:=h.row x v k;have h1:=h0.1.kept ao (.inr (al x v k));refine⟨(h1.kept ap (.inr ?_)).kept ai (.inr (al x v k)),h0.2⟩
  cases hf:f t with
  | none=>intro ak;cases G:v.ownBlock with
   | none=>
     rcases h0.1.2 with ⟨J,av⟩ | ⟨V,_,_,J,_⟩
     ·have:=h0.2;rw[gm] at av;exact this av
     ·subst J;cases G
   | some q=>rw[G] at ak;cases ak
  | some u=>exact h.e6 x t v u e k hf
 by_cases e:x=t
 ·subst e
  rw[iu] at k;cases k
  rw[hN _ _ (Ne.symm L)] at I;have A:=h.row y u I;intro ak;rcases af with h1 | ⟨q,h1,ab⟩
  ·cases hf:f x with
   | none=>
    rw[hf] at h1;rw[h1] at ak;rcases A.1.2 with ⟨_,av⟩ | ⟨V,_,_,J,_⟩
    ·rw[gm] at av
     exact A.2 av
    ·subst J;cases ak
   | some v0=>
    rw[hf] at h1;exact h.e6 x y v0 u L hf I (h1.symm.trans ak)
  rw[h1] at ak;have:=(A.1.lt q ak.symm).2;omega
 rw[hN _ _ e] at k;by_cases R:y=t
 ·subst R
  rw[iu] at I;cases I
  have A:=h.row x v k;intro ak;rcases af with h1 | ⟨q,h1,ab⟩
  ·cases hf:f y with
   | none=>
    rw[hf] at h1;rw[h1] at ak;rcases A.1.2 with ⟨_,av⟩ | ⟨V,_,_,J,_⟩
    ·rw[gm] at av
     exact A.2 av
    ·subst J;cases ak
   | some v0=>
    rw[hf] at h1;exact h.e6 x y v v0 L k hf (ak.trans h1)
  rw[h1] at ak;have:=(A.1.lt q ak).2;omega
 rw[hN _ _ R] at I;exact h.e6 x y v u L k I
def c5(l:List bU)(q:Nat)(e:aO):List fc:=((l.take q).filter fun c=>au (c.e=e)).map fun c=>(c.ay,c.an)
theorem yE(l:List bU):c5 l 0=fun _=> []:=by funext e;simp[c5]
theorem tI{l:List bU}{q:Nat}{c:bU}(h:l[q]? =D c):c5 l (q+1)=fun x=>if x=c.e then c5 l q c.e++ [(c.ay,c.an)] else c5 l q x:=by
 funext x
 unfold c5;rw[List.take_add_one,h,List.filter_append];by_cases e:x=c.e
 ·subst e
  simp
 have:¬c.e=x:=fun h=>e h.symm;rw[if_neg e];simp[this]
theorem n9{l:List bU}{q:Nat}{e:aO}{x:fc}:x ∈ c5 l q e↔∃c ∈ l.take q,c.e=e/\x=(c.ay,c.an):=by
 unfold c5;simp only[j6,List.mem_filter,decide_eq_true_eq];constructor
 ·rintro⟨c,⟨h1,ab⟩,rfl⟩
  exact⟨c,h1,ab,rfl⟩
 rintro⟨c,h1,ab,rfl⟩;exact⟨c,⟨h1,ab⟩,rfl⟩
theorem ra(l:List bU)(q:Nat)(e:aO):(c5 l q e).length<=q:=by
 unfold c5;rw[List.length_map];exact Nat.le_trans (List.length_filter_le _ _) (by rw[List.length_take];exact Nat.min_le_left _ _)
end
end
section
set_option maxRecDepth 100000
open Go.RowKit Go.Maps
theorem zb(q:ho)(L:List ah)(ms:List aR)(h:List Int)(aU:aO->Option Int)(i:Nat)(m:aR)(e:aO)(w:ac)(aI:fe q L ms h aU w)(aH:ms[i]? =D m)(a8:i < L.length)(c:jy m.1 m.2.1 m.2.2.1 m.2.2.2.1 m.2.2.2.2.1 m.2.2.2.2.2)(he:lC e):
  bB aj 92 #[ad (D ⟨q.ar,0,F⟩), B o (i:Int),bS e] w fun r Z=>r= .returned (bS (fP m e))/\Below w.heap.size w Z:=by
 have bg:=aW (aQ w (Y #[B o e.1, B o e.2.1, B o e.2.2.1, B o e.2.2.2] 42)) (Y #[B o 0, B o 0, B o 0, B o 0] 42);have k:=aQ (w.alloc (Y #[B o e.1, B o e.2.1, B o e.2.2.1, B o e.2.2.2] 42)) (Y #[B o 0, B o 0, B o 0, B o 0] 42);rw[World.size_alloc] at k;have an:=aN (aV w (Y #[B o e.1, B o e.2.1, B o e.2.2.1, B o e.2.2.2] 42)) (Y #[B o 0, B o 0, B o 0, B o 0] 42);obtain⟨a1,c1,c2,bV⟩:=dm bg;have av:=aI.below an;have l:=av.cd.c1;obtain⟨s,y,z,A,G,I⟩:=av.ul aH;have cz:=ck c.ao c.a2 (show -40<=e.1 from he.b0.1) he.b0.2;have b9:=ck c.b1 c.aC (show -40<=e.2.1 from he.b1.1) he.b1.2;have dZ:=ck c.c1 c.c2 (show -40<=e.1 from he.b0.1) he.b0.2
 have dO:=ck c.d1 c.d2 (show -40<=e.2.1 from he.b1.1) he.b1.2;have aZ:=ck c.ao c.a2 (show -40<=e.2.2.1 from he.aC.1) he.aC.2;have bm:=ck c.b1 c.aC (show -40<=e.2.2.2 from he.aM.1) he.aM.2;have bf:=ck c.c1 c.c2 (show -40<=e.2.2.1 from he.aC.1) he.aC.2;have bh:=ck c.d1 c.d2 (show -40<=e.2.2.2 from he.aM.1) he.aM.2;have bj:=a7 c.ap c.ak;have bk:=a7 c.f1 c.f2;have ag:=fun W:ac=>nf m.1 m.2.1 m.2.2.1 m.2.2.2.1 m.2.2.2.2.1 m.2.2.2.2.2 e.1 e.2.1 W (by omega) (by omega) (by omega) (by omega) (by omega) (by omega);have al:=fun W:ac=>nf m.1 m.2.1 m.2.2.1 m.2.2.2.1 m.2.2.2.2.1 m.2.2.2.2.2 e.2.2.1 e.2.2.2 W (by omega) (by omega) (by omega) (by omega) (by omega) (by omega);have N:=fun W:ac=>pW (m.1*e.1+m.2.1*e.2.1+m.2.2.2.2.1) (m.2.2.1*e.1+m.2.2.2.1*e.2.1+m.2.2.2.2.2) (m.1*e.2.2.1+m.2.1*e.2.2.2+m.2.2.2.2.1) (m.2.2.1*e.2.2.1+m.2.2.2.1*e.2.2.2+m.2.2.2.2.2) W
 obtain⟨E,T⟩:=ai (fP m e);rw[<-T];unfold fP at T;rw[<-T] at N;obtain⟨bR,az⟩:=ai (m.1*e.1+m.2.1*e.2.1+m.2.2.2.2.1);obtain⟨bH,aA⟩:=ai (m.2.2.1*e.1+m.2.2.2.1*e.2.1+m.2.2.2.2.2);obtain⟨bt,aD⟩:=ai (m.1*e.2.2.1+m.2.1*e.2.2.2+m.2.2.2.2.1);obtain⟨a4,aE⟩:=ai (m.2.2.1*e.2.2.1+m.2.2.2.1*e.2.2.2+m.2.2.2.2.2);rw[<-az,<-aA] at ag N;rw[<-aD,<-aE] at al N;obtain⟨a0,a3,aY,ay⟩:=df ag al N an;have bl:(0:Int)<=(i:Int):=by omega
 have a9:(i:Int) < (L.length:Int):=by omega
 obtain⟨n,hn⟩:=ai (L.length);rw[<-hn] at a9 l;clear bg an aI av cz b9 dZ dO aZ bm bf bh bj bk ag al N T az aA aD aE c he aH a8 hn;go_in
 go_wp2_with fail
 generalize (w.alloc (Y #[B o e.1, B o e.2.1, B o e.2.2.1, B o e.2.2.2] 42)).alloc (Y #[B o 0, B o 0, B o 0, B o 0] 42)=w1 at k a1 c1 c2 bV l s y z A G I ay |-;refine mb (fin:= ?z1) [21] [20,9,19,6,8,16,18,5,7,15,17,3,4,13,14,2,12,1,11,0,10] [S,S,S,S,S,S,S,S,S,S,S,S,S,S,S,S,S,S,S,S,S,Q] [Q,Q,Q,Q,Q,Q,Q,Q,Q,Q,Q,Q,Q,Q,Q,Q,Q,Q,Q,Q,Q,Q] (fun x=> [ad (D ⟨q.ar,0,F⟩), ad (D ⟨q.ar,0,F⟩), ad (D ⟨q.ar,1,F⟩), O (D ⟨q.bN,0,F⟩) n q.cm, B o (i:Int), ad (D ⟨q.bN,i*6,F⟩),b2 m, ad (D ⟨w.heap.size,0,F⟩),bu e.1 e.2.1,bu bR bH, ad (D ⟨q.ar,0,F⟩), ad (D ⟨q.ar,0,F⟩), ad (D ⟨q.ar,1,F⟩), O (D ⟨q.bN,0,F⟩) n q.cm, B o (i:Int), ad (D ⟨q.bN,i*6,F⟩),b2 m, ad (D ⟨w.heap.size,2,F⟩),bu e.2.2.1 e.2.2.2,bu bt a4,bS E,(x 0)]) (fun j _ b=>match j with | 0=>b.cell? ⟨w.heap.size,0,F⟩=D (B o e.1)/\b.cell? ⟨w.heap.size,1,F⟩=D (B o e.2.1)/\b.cell? ⟨w.heap.size,2,F⟩=D (B o e.2.2.1)/\b.cell? ⟨w.heap.size,3,F⟩=D (B o e.2.2.2)/\b.cell? ⟨q.ar,1,F⟩=D (O (D ⟨q.bN,0,F⟩) n q.cm)/\b.cell? ⟨q.bN,i*6,F⟩=D (B o m.1)/\b.cell? ⟨q.bN,i*6+1,F⟩=D (B o m.2.1)/\b.cell? ⟨q.bN,i*6+2,F⟩=D (B o m.2.2.1)/\b.cell? ⟨q.bN,i*6+3,F⟩=D (B o m.2.2.2.1)/\b.cell? ⟨q.bN,i*6+4,F⟩=D (B o m.2.2.2.2.1)/\b.cell? ⟨q.bN,i*6+5,F⟩=D (B o m.2.2.2.2.2)/\b.heap[w.heap.size+1]? =D (Y #[B o 0, B o 0, B o 0, B o 0] 42 (0,0))/\Below w1.heap.size w1 b | _=>∃g:ac,(g.cell? ⟨w.heap.size,0,F⟩=D (B o e.1)/\g.cell? ⟨w.heap.size,1,F⟩=D (B o e.2.1)/\g.cell? ⟨w.heap.size,2,F⟩=D (B o e.2.2.1)/\g.cell? ⟨w.heap.size,3,F⟩=D (B o e.2.2.2)/\g.cell? ⟨q.ar,1,F⟩=D (O (D ⟨q.bN,0,F⟩) n q.cm)/\g.cell? ⟨q.bN,i*6,F⟩=D (B o m.1)/\g.cell? ⟨q.bN,i*6+1,F⟩=D (B o m.2.1)/\g.cell? ⟨q.bN,i*6+2,F⟩=D (B o m.2.2.1)/\g.cell? ⟨q.bN,i*6+3,F⟩=D (B o m.2.2.2.1)/\g.cell? ⟨q.bN,i*6+4,F⟩=D (B o m.2.2.2.2.1)/\g.cell? ⟨q.bN,i*6+5,F⟩=D (B o m.2.2.2.2.2)/\g.heap[w.heap.size+1]? =D (Y #[B o 0, B o 0, B o 0, B o 0] 42 (0,0))/\Below w1.heap.size w1 g)/\b=(((g.setCell ⟨w.heap.size+1,0,F⟩ (B o E.1)).setCell ⟨w.heap.size+1,1,F⟩ (B o E.2.1)).setCell ⟨w.heap.size+1,2,F⟩ (B o E.2.2.1)).setCell ⟨w.heap.size+1,3,F⟩ (B o E.2.2.2)) ?hf (by kernel_rfl) (by kernel_rfl) (fun _=>rfl) (by kernel_rfl) ?hv ⟨a1,c1,c2,bV,l,s,y,z,A,G,I,k,aX.drew⟩ (fun x b hst=> ?hs) ?aK ?bi (fun x b hst=> ?he)
 case hf=>intro x;simp only[aT,a6,bd,ba,bc];exact rfl
 case hv=>
  intro x j t v h;cases j with
  | zero=>cases h;rfl
  | succ j=>simp at h
 case hs=>
  have ab:=R hst;obtain⟨a1,c1,c2,bV,l,s,y,z,A,G,I,k,M⟩:=hst;iterate 21 refine⟨?_,fun K J=> ?_⟩
  ·trivial
  all_goals try (go_simp;exact J _ ab.out;done)
  ·go_simp
   exact aw (aY.out b) fun wc a=>J _ ⟨V a1 a,V c1 a,V c2 a,V bV a,V l a,V s a,V y a,V z a,V A a,V G a,V I a,aG k a (am k),ax M a⟩
  ·go_simp
   exact aw (a3.out b) fun wc a=>J _ ⟨V a1 a,V c1 a,V c2 a,V bV a,V l a,V s a,V y a,V z a,V A a,V G a,V I a,aG k a (am k),ax M a⟩
  go_simp;exact aw (a0.out b) fun wc a=>J _ ⟨V a1 a,V c1 a,V c2 a,V bV a,V l a,V s a,V y a,V z a,V A a,V G a,V I a,aG k a (am k),ax M a⟩
 case aK=>intro j x b _ _ _;trivial
 case bi=>
  intro j t x b ht hst af be K J;obtain rfl:j=0:=by cases j with | zero=>rfl | succ j=>simp at ht
  cases ht;cases be
  have ab:=R hst;obtain⟨a1,c1,c2,bV,l,s,y,z,A,G,I,k,M⟩:=hst;obtain⟨bn,z1,bo,bp⟩:=dm k;have bs:=br k;have bv:=am k;go_simp;exact J U _ ⟨_,ab.out,rfl⟩
 obtain⟨g,hst,a5⟩:=hst;obtain⟨a1,c1,c2,bV,l,s,y,z,A,G,I,k,M⟩:=hst;subst a5;have P:=bq (bq (bq (bq k 0 (B o E.1)) 1 (B o E.2.1)) 2 (B o E.2.2.1)) 3 (B o E.2.2.2);have aF:Below w.heap.size w ((((g.setCell ⟨w.heap.size+1,0,F⟩ (B o E.1)).setCell ⟨w.heap.size+1,1,F⟩ (B o E.2.1)).setCell ⟨w.heap.size+1,2,F⟩ (B o E.2.2.1)).setCell ⟨w.heap.size+1,3,F⟩ (B o E.2.2.2)):=((((ax ay.out M).setCell (p:=⟨w.heap.size+1,0,F⟩) (iW _) _).setCell (p:=⟨w.heap.size+1,1,F⟩) (iW _) _).setCell (p:=⟨w.heap.size+1,2,F⟩) (iW _) _).setCell (p:=⟨w.heap.size+1,3,F⟩) (iW _) _;generalize (((g.setCell ⟨w.heap.size+1,0,F⟩ (B o E.1)).setCell ⟨w.heap.size+1,1,F⟩ (B o E.2.1)).setCell ⟨w.heap.size+1,2,F⟩ (B o E.2.2.1)).setCell ⟨w.heap.size+1,3,F⟩ (B o E.2.2.2)=wF at P aF |-
 have aJ:=aB P 0;have aL:=aB P 1;have aP:=aB P 2;have aS:=aB P 3;simp at aJ aL aP aS;go_wp2;exact bodyPost_ret (v:=bS E) (by simp[results,Tryz.results92,go_sem,aJ,aL,aP,aS]) rfl ⟨rfl,aF⟩
end
section
set_option maxRecDepth 100000
open Go.RowKit Go.Maps
theorem q7(q:ho)(L:List ah)(ms:List aR)(h:List Int)(aU:aO->Option Int)(i:Nat)(af:Int)(w:ac)(G:fe q L ms h aU w)(al:i < L.length)(aw:af < (L.length:Int)):bB aj 93 #[ad (D ⟨q.ar,0,F⟩), aq #[B o (i:Int), B o af]] w fun r Z=>r= .returned (aa (fA L ms i af))/\Below w.heap.size w Z:=by
 have bg:=aQ w (Y #[B o (i:Int), B o af] 106);have s:=aV w (Y #[B o (i:Int), B o af] 106);obtain⟨a1,c1⟩:=d7 bg;obtain⟨am,g⟩:=ai (fA L ms i af);rw[<-g];have y:=R s;by_cases h0:0<=af
 ·obtain⟨j,rfl⟩:∃j:Nat,af=(j:Int):=⟨af.toNat,by omega⟩
  have T:j < L.length:=by omega
  have k:=G.below s;have P:=k.cd.c2;obtain⟨p0,cz,b9⟩:=k.mF al;obtain⟨r0,cN,ct⟩:=k.mF T;obtain⟨b,ak⟩:=ai ((au (bA L ms j=bA L ms i)));have l:am=b:=by rw[g,ak,fA,decide_eq_true h0,ib,lp]
  have ay:∀Z,(binOp .eql 53 (aq #[B o (bA L ms j).1, B o (bA L ms j).2.1, B o (bA L ms j).2.2]) (aq #[B o (bA L ms i).1, B o (bA L ms i).2.1, B o (bA L ms i).2.2])).run aj Z= .ok (aa b) Z:=fun Z=>by
   have h:=n5 (bA L ms j).1 (bA L ms j).2.1 (bA L ms j).2.2 (bA L ms i).1 (bA L ms i).2.1 (bA L ms i).2.2 Z;rw[jE] at h;rw[ak];exact h
  obtain⟨ab,ap⟩:=ai (bA L ms j);obtain⟨ag,hV⟩:=ai (bA L ms i);rw[<-ap] at ay r0 cN ct;rw[<-hV] at ay p0 cz b9;have N:=R l;have an:(j:Int)≥0:=h0;have aK:(0:Int)<=(i:Int):=by omega
  have av:(i:Int) < (L.length:Int):=by omega
  obtain⟨n,hn⟩:=ai (L.length);rw[<-hn] at av aw P;clear g ak bg s l G k ap hV al T hn;go_in
  go_wp2_with fail
  generalize w.alloc (Y #[B o (i:Int), B o (j:Int)] 106)=w1 at a1 c1 P p0 cz b9 r0 cN ct y |-;refine bW (fin:= ?z1) [ad (D ⟨w.heap.size,1,F⟩), B o (j:Int), aa S, aa S, ad (D ⟨q.ar,0,F⟩), ad (D ⟨q.ar,0,F⟩), ad (D ⟨q.ar,2,F⟩), O (D ⟨q.cD,0,F⟩) n q.eh, ad (D ⟨w.heap.size,1,F⟩), B o (j:Int), ad (D ⟨q.cD,j*3,F⟩), aq #[B o ab.1, B o ab.2.1, B o ab.2.2], ad (D ⟨q.ar,0,F⟩), ad (D ⟨q.ar,0,F⟩), ad (D ⟨q.ar,2,F⟩), O (D ⟨q.cD,0,F⟩) n q.eh, ad (D ⟨w.heap.size,0,F⟩), B o (i:Int), ad (D ⟨q.cD,i*3,F⟩), aq #[B o ag.1, B o ag.2.1, B o ag.2.2], aa b, aa b, aa b] ?hf bp (by kernel_rfl) rfl fun az c=> ?_
  case hf=>simp only[aT,a6,bd,ba,bc];exact rfl
  have z:=R c;obtain⟨a1,c1,P,p0,cz,b9,r0,cN,ct⟩:=jV c a1 c1 P p0 cz b9 r0 cN ct;constructor
  ·iterate 23 refine⟨?_,fun K E=> ?_⟩
   ·trivial
   all_goals try (go_simp;exact E _ z.out;done)
  have M:=R (ax y.out c);clear c;go_wp2;go_ret;exact⟨cW N.out.symm,M.out⟩
 have an:¬af≥0:=h0;have l:am=Q:=by rw[g,fA,decide_eq_false h0,dG]
 obtain⟨N,aE⟩:=aY l h0;clear g bg s l G al aw h0 an;go_in
 go_wp2_with fail
 generalize w.alloc (Y #[B o (i:Int), B o af] 106)=w1 at a1 c1 y |-;refine bW (fin:= ?z2) [ad (D ⟨w.heap.size,1,F⟩), B o af, aa Q, aa Q,U,U,U,U,U,U,U,U,U,U,U,U,U,U,U,U,U, aa Q, aa Q] ?hf bp (by kernel_rfl) rfl fun az c=> ?_;case hf=>simp only[aT,a6,bd,ba,bc];exact rfl
 have z:=R c;have c1:=V c1 c;constructor
 ·iterate 23 refine⟨?_,fun K E=> ?_⟩
  ·trivial
  all_goals try (go_simp;exact E _ z.out;done)
  have ao:¬0<=af:=by have:=aE.out;omega
  have aG:¬af≥0:=ao;have aN:au (af≥0)=Q:=decide_eq_false aG;have aP:au (0<=af)=Q:=decide_eq_false ao;go_simp;exact E _ z.out
 have M:=R (ax y.out c);clear c;go_wp2;go_ret;exact⟨cW N.out.symm,M.out⟩
theorem tD(q:ho)(L:List ah)(ms:List aR)(h:List Int)(aU:aO->Option Int)(i:Nat)(af:Int)(w:ac)(G:fe q L ms h aU w)(al:i < L.length)(aw:af < (L.length:Int)):bB aj 96 #[ad (D ⟨q.ar,0,F⟩), aq #[B o (i:Int), B o af]] w fun r Z=>r= .returned (aa (gB L ms i af))/\Below w.heap.size w Z:=by
 have bg:=aQ w (Y #[B o (i:Int), B o af] 106);have s:=aV w (Y #[B o (i:Int), B o af] 106);obtain⟨a1,c1⟩:=d7 bg;obtain⟨am,g⟩:=ai (gB L ms i af);rw[<-g];have y:=R s;by_cases h0:0<=af
 ·obtain⟨j,rfl⟩:∃j:Nat,af=(j:Int):=⟨af.toNat,by omega⟩
  have T:j < L.length:=by omega
  have k:=G.below s;have P:=k.cd.c2;obtain⟨p0,cz,b9⟩:=k.mF al;obtain⟨r0,cN,ct⟩:=k.mF T;obtain⟨b,ak⟩:=ai ((!au (bA L ms j=bA L ms i)));have l:am=b:=by rw[g,ak,gB,decide_eq_true h0,ib,lp]
  have ay:∀Z,(binOp .neq 53 (aq #[B o (bA L ms j).1, B o (bA L ms j).2.1, B o (bA L ms j).2.2]) (aq #[B o (bA L ms i).1, B o (bA L ms i).2.1, B o (bA L ms i).2.2])).run aj Z= .ok (aa b) Z:=fun Z=>by
   have h:=jJ (bA L ms j).1 (bA L ms j).2.1 (bA L ms j).2.2 (bA L ms i).1 (bA L ms i).2.1 (bA L ms i).2.2 Z;rw[jE] at h;rw[ak];exact h
  obtain⟨ab,ap⟩:=ai (bA L ms j);obtain⟨ag,hV⟩:=ai (bA L ms i);rw[<-ap] at ay r0 cN ct;rw[<-hV] at ay p0 cz b9;have N:=R l;have an:(j:Int)≥0:=h0;have aK:(0:Int)<=(i:Int):=by omega
  have av:(i:Int) < (L.length:Int):=by omega
  obtain⟨n,hn⟩:=ai (L.length);rw[<-hn] at av aw P;clear g ak bg s l G k ap hV al T hn;go_in
  go_wp2_with fail
  generalize w.alloc (Y #[B o (i:Int), B o (j:Int)] 106)=w1 at a1 c1 P p0 cz b9 r0 cN ct y |-;refine bW (fin:= ?z3) [ad (D ⟨w.heap.size,1,F⟩), B o (j:Int), aa S, aa S, ad (D ⟨q.ar,0,F⟩), ad (D ⟨q.ar,0,F⟩), ad (D ⟨q.ar,2,F⟩), O (D ⟨q.cD,0,F⟩) n q.eh, ad (D ⟨w.heap.size,1,F⟩), B o (j:Int), ad (D ⟨q.cD,j*3,F⟩), aq #[B o ab.1, B o ab.2.1, B o ab.2.2], ad (D ⟨q.ar,0,F⟩), ad (D ⟨q.ar,0,F⟩), ad (D ⟨q.ar,2,F⟩), O (D ⟨q.cD,0,F⟩) n q.eh, ad (D ⟨w.heap.size,0,F⟩), B o (i:Int), ad (D ⟨q.cD,i*3,F⟩), aq #[B o ag.1, B o ag.2.1, B o ag.2.2], aa b, aa b, aa b] ?hf bp (by kernel_rfl) rfl fun az c=> ?_
  case hf=>simp only[aT,a6,bd,ba,bc];exact rfl
  have z:=R c;obtain⟨a1,c1,P,p0,cz,b9,r0,cN,ct⟩:=jV c a1 c1 P p0 cz b9 r0 cN ct;constructor
  ·iterate 23 refine⟨?_,fun K E=> ?_⟩
   ·trivial
   all_goals try (go_simp;exact E _ z.out;done)
  have M:=R (ax y.out c);clear c;go_wp2;go_ret;exact⟨cW N.out.symm,M.out⟩
 have an:¬af≥0:=h0;have l:am=Q:=by rw[g,gB,decide_eq_false h0,dG]
 obtain⟨N,aE⟩:=aY l h0;clear g bg s l G al aw h0 an;go_in
 go_wp2_with fail
 generalize w.alloc (Y #[B o (i:Int), B o af] 106)=w1 at a1 c1 y |-;refine bW (fin:= ?z4) [ad (D ⟨w.heap.size,1,F⟩), B o af, aa Q, aa Q,U,U,U,U,U,U,U,U,U,U,U,U,U,U,U,U,U, aa Q, aa Q] ?hf bp (by kernel_rfl) rfl fun az c=> ?_;case hf=>simp only[aT,a6,bd,ba,bc];exact rfl
 have z:=R c;have c1:=V c1 c;constructor
 ·iterate 23 refine⟨?_,fun K E=> ?_⟩
  ·trivial
  all_goals try (go_simp;exact E _ z.out;done)
  have ao:¬0<=af:=by have:=aE.out;omega
  have aG:¬af≥0:=ao;have aN:au (af≥0)=Q:=decide_eq_false aG;have aP:au (0<=af)=Q:=decide_eq_false ao;go_simp;exact E _ z.out
 have M:=R (ax y.out c);clear c;go_wp2;go_ret;exact⟨cW N.out.symm,M.out⟩
theorem sI(q:ho)(L:List ah)(ms:List aR)(h:List Int)(aU:aO->Option Int)(a i:Nat)(j:Nat)(w:ac)(G:fe q L ms h aU w)(aJ:a < L.length)(al:i < L.length)(T:j < L.length):bB aj 97 #[ad (D ⟨q.ar,0,F⟩), B o (a:Int), aq #[B o (i:Int), B o (j:Int)]] w fun r Z=>r= .returned (aa (gS (be h (a:Int)) (be h (i:Int)) (be h (j:Int))))/\Below w.heap.size w Z:=by
 have bg:=aQ w (Y #[B o (i:Int), B o (j:Int)] 106);have s:=aV w (Y #[B o (i:Int), B o (j:Int)] 106);obtain⟨a1,c1⟩:=d7 bg;have y:=R s;have k:=G.below s;have aD:=k.cd.bV;have aA:=k.i8 aJ;have aB:=k.i8 al;have aC:=k.i8 T;generalize be h (a:Int)=A at aA |-;generalize be h (i:Int)=I at aB |-;generalize be h (j:Int)=J at aC |-;obtain⟨am,g⟩:=ai (gS A I J);rw[<-g];have aK:(0:Int)<=(i:Int):=by omega
 have aZ:(0:Int)<=(j:Int):=by omega
 have aX:(0:Int)<=(a:Int):=by omega
 have av:(i:Int) < (L.length:Int):=by omega
 have aW:(j:Int) < (L.length:Int):=by omega
 have aS:(a:Int) < (L.length:Int):=by omega
 obtain⟨n,hn⟩:=ai (L.length);rw[<-hn] at av aW aS aD;obtain⟨a0,aH⟩:=ai (min I J);obtain⟨a2,aI⟩:=ai (max I J);unfold gS at g;rw[<-aH,<-aI] at g;obtain⟨N,aL,aM⟩:=cq g aH aI;clear g bg s G k al T aJ hn aH aI;go_in
 go_wp2_with fail
 generalize w.alloc (Y #[B o (i:Int), B o (j:Int)] 106)=w1 at a1 c1 aD aA aB aC y |-;refine bW (fin:= ?z5) [ad (D ⟨q.ar,0,F⟩), ad (D ⟨q.ar,0,F⟩), ad (D ⟨q.ar,3,F⟩), O (D ⟨q.aF,0,F⟩) n n, ad (D ⟨w.heap.size,0,F⟩), B o (i:Int), ad (D ⟨q.aF,i,F⟩), B o I, ad (D ⟨q.ar,0,F⟩), ad (D ⟨q.ar,0,F⟩), ad (D ⟨q.ar,3,F⟩), O (D ⟨q.aF,0,F⟩) n n, ad (D ⟨w.heap.size,1,F⟩), B o (j:Int), ad (D ⟨q.aF,j,F⟩), B o J, B o I, B o J] ?hf bp (by kernel_rfl) rfl fun az c=> ?_;case hf=>simp only[aT,a6,bd,ba,bc];exact rfl
 have z:=R c;obtain⟨a1,c1,aD,aA,aB,aC⟩:=jf c a1 c1 aD aA aB aC;constructor
 ·iterate 18 refine⟨?_,fun K E=> ?_⟩
  ·trivial
  all_goals try (go_simp;exact E _ z.out;done)
 have M:=R (ax y.out c);clear c;go_wp2;all_goals go_ret
 all_goals refine⟨cW ?_,M.out⟩
 all_goals have l:=N.out
 all_goals rw[aL.out,aM.out] at l
 all_goals rw[l,Bool.eq_iff_iff]
 all_goals simp only[cu,decide_eq_true_eq,Bool.false_eq_true,Bool.true_eq_false,false_iff,true_iff,iff_false,iff_true]
 all_goals omega
end
end Go.Proofs.YteaeipgfjmnecaaGreatDoor

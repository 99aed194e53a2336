/- Lemmas; each says its own conditions. -/
import Derived.Test.YteaeipgfjmnecaaGreatDoorK12
import Derived.Deep.CutBlock
open And renaming intro->a7
open Bool renaming false->Q,true->S
open Decidable renaming decide->au
open Go renaming heap_alloc_new->aQ,undef->U
open Go.Act renaming put->a6
open Go.IntKind renaming i64->b7
open Go.IntWalk renaming i64_in->ca
open Go.Value renaming ownBlock->qg
open Go.IntKind renaming i64->o
open List renaming getD_eq_getElem?_getD->cf,getElem?_eq_getElem->bb,setIfInBounds_toArray->bd,set_cons_succ->ba,set_cons_zero->bc
open Go.Obj renaming cells->Y
open Option renaming none->F,some->D
open Go.Proofs.Tryz renaming prog->aj
open Go.Value renaming agg->aq,bool->aa,int->B,pointer->ad,slice->O
namespace Go.Proofs.YteaeipgfjmnecaaGreatDoor
set_option linter.unusedSimpArgs false
set_option linter.unusedVariables false
set_option maxHeartbeats 12800000
section
set_option maxRecDepth 100000
open Go.RowKit Go.Maps
theorem yU(W H:Nat)(Am Ac Ap eB:Option Addr)(nm cm nc cc cp d9:Nat)(mask:List Int)(cs:List bw)(L:List ah)(ms:List aR)(hts:List Int)(A:Nat->ah)(w:World)(dt:eF w W H Am nm mask Ac nc cs)(hL:bG W mask=L)(hnd:L.Nodup)(hq:L.length<=1000)
  (fG:ms.length=L.length) (fx:hts.length=L.length) (cX:Rd w 6 Ap L.length (b5 ms)) (hh:Rd w 1 eB L.length (bF hts)) (fH:∀(i:Nat) (m:aR) (t:ah),ms[i]? =D m->L[i]? =D t->∀W':World,Calls aj 31 #[b2 m,bK t] W' fun e Z=>e= .returned (bK (A i))/\Below W'.heap.size W' Z)
  (hnm:nm*8<=140737488351232) (hnc:nc*40<=140737488351232) (hAm:Am=F->cm=0) (hAc:Ac=F->cc=0) (hAp:Ap=F->cp=0):
  Calls aj 40 #[g5 W H Am nm cm Ac nc cc, O Ap L.length cp, O eB L.length d9] w fun e Z=>∃ap az an ay ar aA eE n cS,n=(d5 L A hts L.length).length/\e= .returned (aq #[B o W, B o H, O ap nm az, O an nc ay, O ar L.length aA, O eE n cS])/\Z.ownsRow w.heap.size 3 1 (O ap nm az) nm (bF mask)/\Z.ownsRow w.heap.size 129 5 (O an nc ay) nc (cr cs)/\Z.ownsRow w.heap.size 64 6 (O ar L.length aA) L.length (b5 ms)/\dv Z w.heap.size (O eE n cS) (d5 L A hts L.length)/\Below w.heap.size w Z:=by
 have fP:=aW (aQ w (Y #[B o W, B o H, O Am nm cm, O Ac nc cc] 25)) (Y #[B o 0, B o 0, O F 0 0, O F 0 0, O F 0 0, O F 0 0] 29);have aS:=aQ (w.alloc (Y #[B o W, B o H, O Am nm cm, O Ac nc cc] 25)) (Y #[B o 0, B o 0, O F 0 0, O F 0 0, O F 0 0, O F 0 0] 29);rw[World.size_alloc] at aS;have bN:=aN (aV w (Y #[B o W, B o H, O Am nm cm, O Ac nc cc] 25)) (Y #[B o 0, B o 0, O F 0 0, O F 0 0, O F 0 0, O F 0 0] 29);obtain⟨a0,ao,a2,d7⟩:=dm fP;have cZ:=lh W H Am Ac nm cm nc cc mask cs ((w.alloc (Y #[B o W, B o H, O Am nm cm, O Ac nc cc] 25)).alloc (Y #[B o 0, B o 0, O F 0 0, O F 0 0, O F 0 0, O F 0 0] 29)) (dt.below bN)
 rw[hL] at cZ;have fk:=fun(W':World) (cQ:Below w.heap.size w W')=>vA W H Am Ac nm cm nc cc mask cs W' (dt.pP.below cQ) (dt.pM.below cQ) hnm hnc hAm hAc;unfold g5 at cZ;obtain⟨eK,eI,e3,eO,f5,g9,eW,g8,eL,dq⟩:=rb cZ fk cX hh fH hnd fG fx bN aS;clear cZ fk cX hh fH hnd fG fx bN fP aS dt hL;unfold g5;go_in
 go_wp2_with (first
  | (go_at_call 28;refine eK.out.mono ?_;rintro e ii ⟨bJ,rfl,eo,bR⟩;obtain⟨g7,dx,gR,_,_⟩:=dd eo;subst gR;have eZ:=R eo;have cn:=R (eL.out.trans (bR.mono eL.out.size));have d1:=R (aG dq.out bR (am dq.out));replace a0:=V a0 bR;replace ao:=V ao bR;replace a2:=V a2 bR;replace d7:=V d7 bR;have hsz2:=bR.size;clear eo bR eK)
  | (go_at_call 14;refine(eI.out _ cn.out).mono ?_;rintro e ij ⟨ap,az,an,ay,rfl,h1,ab,cR⟩;have dQ:=R (a7 h1 ab);have dN:=R (ax cn.out cR);have d2:=R (aG d1.out cR (am d1.out));have e0:=R (bo eZ.out cR);have h5:=cR.size;clear h1 ab cR a0 ao a2 d7)
  | (at_builtin;refine mE Tryz.underlying26 mY rfl (by decide) rfl _ _ rfl rfl Ap L.length cp (b5 ms) rfl hAp (e3.out.below dN.out) (m1 _) (by omega) (by omega) ?_;intro ig cv ep cd;obtain⟨ar,aA,gQ,_,_⟩:=dd ep;subst gQ;have dk:=R (a7 (bo dQ.out.1 cd) (a7 (bo dQ.out.2 cd) ep));have eN:=R (ax dN.out cd);have d3:=R (aG d2.out cd (am d2.out));have e1:=R (bo e0.out cd);have h6:=cd.size;clear ep cd)
  | fail)
 have cg:=aV cv (Y #[B o W, B o H, O ap nm az, O an nc ay, O ar L.length aA, O F 0 0] 29);have fQ:=aQ cv (Y #[B o W, B o H, O ap nm az, O an nc ay, O ar L.length aA, O F 0 0] 29);have ft:cv.heap.size < (cv.alloc (Y #[B o W, B o H, O ap nm az, O an nc ay, O ar L.length aA, O F 0 0] 29)).heap.size:=by simp
 obtain⟨bQ,b9,fg,cI,b3⟩:=dY (ax eN.out cg) (a7 (bo dk.out.1 cg) (a7 (bo dk.out.2.1 cg) (bo dk.out.2.2 cg))) (aG d3.out cg (am d3.out)) (bo e1.out cg) fQ;have hO:=am dq.out;have h7:((w.alloc (Y #[B o W, B o H, O Am nm cm, O Ac nc cc] 25)).alloc (Y #[B o 0, B o 0, O F 0 0, O F 0 0, O F 0 0, O F 0 0] 29)).heap.size=w.heap.size+2:=by simp
 clear cg fQ d3 d2 d1 dq dQ dk eZ e0 e1;generalize hB:cv.heap.size=g at b3 ft |-;generalize cv.alloc (Y #[B o W, B o H, O ap nm az, O an nc ay, O ar L.length aA, O F 0 0] 29)=w6 at bQ b9 fg cI b3 ft |-;have h8:w.heap.size+1 < g:=by omega
 have gC:g < w6.heap.size:=by omega
 have fo:eU w6 g W H (O ap nm az) (O an nc ay) (O ar L.length aA) (O F 0 0) (O F 0 0) (d5 L A hts 0) w6:=⟨da.refl _ _ _,b3.out,dv.nil _ _,gC⟩;have eP:=R fo;clear fo cn dN eN eI;go_loopw [9] (fun v wr=>∃(i:Nat) (d4:Value),i<=L.length/\v= B o i/\Hid (eU w6 g W H (O ap nm az) (O an nc ay) (O ar L.length aA) d4 d4 (d5 L A hts i) wr)) (fun v _=>L.length-(intOf v).toNat)
 case atStart=>exact⟨0, O F 0 0,by omega,rfl,eP⟩
 clear eP;obtain⟨i,d4,al,rfl,ac⟩:=hrel;by_cases eg:i < L.length
 ·obtain⟨t,ht⟩:∃t,L[i]? =D t:=⟨_,bb eg⟩
  obtain⟨gt,hi,_,bB,_,_,_,ef⟩:=dF cI.out (show 0 < L.length by omega);cases bB
  have bI:gt≠g:=fun e=>by rw[e,b3.out] at ef;simp at ef
  obtain⟨aE,aH,aJ⟩:=ey cI.out ht;have aE:=ac.out.cb.cell aE bI bI;have aH:=ac.out.cb.cell aH bI bI;have aJ:=ac.out.cb.cell aJ bI bI;obtain⟨bf,rfl⟩:=ai wr;have be:Below w.heap.size w bf:=bQ.out.trans (ac.out.cb.out (by omega) (by omega) bQ.out.size);obtain⟨P,ae,m,hA,fF,hv,aU,a1,a3,a4,a5,a9⟩:=Rd.mp (ms:=ms) (by rw[eW.out];exact e3.out) (show i < ms.length by rw[eW.out];exact eg);subst hA;replace aU:=V aU be;replace a1:=V a1 be;replace a3:=V a3 be;replace a4:=V a4 be;replace a5:=V a5 be;replace a9:=V a9 be;obtain⟨a,ea⟩:=ai (A i);have d8:=f5.out i m t fF ht;rw[<-ea] at d8;obtain⟨dL,fe,fY⟩:=cq d8 ht ea;obtain⟨sts,dG⟩:=ai (d5 L A hts i);rw[<-dG] at ac;have ec:lB L i sts:=by rw[dG];exact tM A hts al
  obtain⟨f1,gb⟩:=aY ec dG;have hZ:=ec.len;have hE:(i:Int) < (L.length:Int):=by omega
  have hD:(0:Int)<=(i:Int):=by omega
  have c9:=ac;have gJ:=c9.out.cb.size;obtain⟨fa,dZ⟩:=aY (jM cI.out c9.out.cb (by simp[qg,bI]) (by simp[qg,bI])) be;clear ht ea ef ac be fF d8 dG ec
  go_wp2_with fail
  refine rO (fin:= ?cz) [8,10] 9 [[S,S,S,S,S,S,S,S,Q,Q,Q], [Q,Q,Q,Q,Q,Q,Q,Q,Q,Q,Q], [Q,Q,Q,Q,Q,Q,Q,Q,Q,Q,Q]] [[S,S,S,S,S,S,S,S,Q,Q,Q], [Q,Q,Q,Q,Q,Q,Q,Q,Q,Q,Q], [Q,Q,Q,Q,Q,Q,Q,Q,Q,Q,Q]] [[3,7,2,6,0,1,4,5], [9,8,3,7,2,6,0,1,4,5]] [] (fun x=> [O (D ⟨P,ae,F⟩) L.length cp, B o (i:Int), ad (D ⟨P,ae+i*6,F⟩),b2 m, O (D ⟨gt,0,F⟩) L.length dx, B o (i:Int), ad (D ⟨gt,i*3,F⟩),bK t,(x 0),(x 2),(x 1)]) (fun J gg x c=>match J,gg with | 0,Q=>c.cell? ⟨P,ae+i*6,F⟩=D (B o m.1)/\c.cell? ⟨P,ae+i*6+1,F⟩=D (B o m.2.1)/\c.cell? ⟨P,ae+i*6+2,F⟩=D (B o m.2.2.1)/\c.cell? ⟨P,ae+i*6+3,F⟩=D (B o m.2.2.2.1)/\c.cell? ⟨P,ae+i*6+4,F⟩=D (B o m.2.2.2.2.1)/\c.cell? ⟨P,ae+i*6+5,F⟩=D (B o m.2.2.2.2.2)/\c.cell? ⟨gt,i*3,F⟩=D (B o t.1)/\c.cell? ⟨gt,i*3+1,F⟩=D (B o t.2.1)/\c.cell? ⟨gt,i*3+2,F⟩=D (B o t.2.2)/\Below bf.heap.size bf c | 0,S=>c.cell? ⟨P,ae+i*6,F⟩=D (B o m.1)/\c.cell? ⟨P,ae+i*6+1,F⟩=D (B o m.2.1)/\c.cell? ⟨P,ae+i*6+2,F⟩=D (B o m.2.2.1)/\c.cell? ⟨P,ae+i*6+3,F⟩=D (B o m.2.2.2.1)/\c.cell? ⟨P,ae+i*6+4,F⟩=D (B o m.2.2.2.2.1)/\c.cell? ⟨P,ae+i*6+5,F⟩=D (B o m.2.2.2.2.2)/\c.cell? ⟨gt,i*3,F⟩=D (B o t.1)/\c.cell? ⟨gt,i*3+1,F⟩=D (B o t.2.1)/\c.cell? ⟨gt,i*3+2,F⟩=D (B o t.2.2)/\Below bf.heap.size bf c/\(∃T,Hid (x 2= ad (D ⟨T,0,F⟩))/\c.heap[T]? =D (Y #[B o 0, B o 0, B o 0] 53 (0,0))/\Hid (bf.heap.size<=T)) | 1,Q=>c.cell? ⟨P,ae+i*6,F⟩=D (B o m.1)/\c.cell? ⟨P,ae+i*6+1,F⟩=D (B o m.2.1)/\c.cell? ⟨P,ae+i*6+2,F⟩=D (B o m.2.2.1)/\c.cell? ⟨P,ae+i*6+3,F⟩=D (B o m.2.2.2.1)/\c.cell? ⟨P,ae+i*6+4,F⟩=D (B o m.2.2.2.2.1)/\c.cell? ⟨P,ae+i*6+5,F⟩=D (B o m.2.2.2.2.2)/\c.cell? ⟨gt,i*3,F⟩=D (B o t.1)/\c.cell? ⟨gt,i*3+1,F⟩=D (B o t.2.1)/\c.cell? ⟨gt,i*3+2,F⟩=D (B o t.2.2)/\Below bf.heap.size bf c/\Hid (x 0=bK a) | 1,S=>c.cell? ⟨P,ae+i*6,F⟩=D (B o m.1)/\c.cell? ⟨P,ae+i*6+1,F⟩=D (B o m.2.1)/\c.cell? ⟨P,ae+i*6+2,F⟩=D (B o m.2.2.1)/\c.cell? ⟨P,ae+i*6+3,F⟩=D (B o m.2.2.2.1)/\c.cell? ⟨P,ae+i*6+4,F⟩=D (B o m.2.2.2.2.1)/\c.cell? ⟨P,ae+i*6+5,F⟩=D (B o m.2.2.2.2.2)/\c.cell? ⟨gt,i*3,F⟩=D (B o t.1)/\c.cell? ⟨gt,i*3+1,F⟩=D (B o t.2.1)/\c.cell? ⟨gt,i*3+2,F⟩=D (B o t.2.2)/\Below bf.heap.size bf c/\(∃T,Hid (x 2= ad (D ⟨T,0,F⟩))/\c.heap[T]? =D (Y #[B o 0, B o 0, B o 0] 53 (0,0))/\Hid (bf.heap.size<=T))/\Hid (x 0=bK a) | _,Q=>False | _,S=>Below bf.heap.size bf c/\∃T,Hid (x 2= ad (D ⟨T,0,F⟩))/\c.heap[T]? =D (Y #[B o a.1, B o a.2.1, B o a.2.2] 53 (0,0))/\Hid (bf.heap.size<=T)/\Hid (x 0=bK a)) ?hf (by kernel_rfl) (by kernel_rfl) (fun _=>rfl) (by kernel_rfl) ?bl ?hvf ⟨aU,a1,a3,a4,a5,a9,aE,aH,aJ,aX.drew⟩ ?hA ?bi ?hF (fun x c hst=> ?_)
  case hf=>intro x;simp only[aT,a6,bd,ba,bc];exact rfl
  case bl=>
   intro x J t v h
   cases J with
   | zero=>cases h;rfl
   | succ J=>
    cases J with
    | zero=>cases h;rfl
    | succ J=>
     simp at h
  case hvf=>intro x v;rfl
  case hA=>
   intro J b x c bS hst;have bS:J<=2:=bS;rcases(show J=0∨J=1∨J=2 by omega) with rfl | rfl | rfl <;> cases b
   ·have M:=R hst
    obtain⟨aU,a1,a3,a4,a5,a9,aE,aH,aJ,k⟩:=hst;iterate 8 refine⟨?_,fun K G=> ?_⟩
    ·trivial
    all_goals try (go_simp;exact G _ M.out;done)
   ·have M:=R hst
    obtain⟨aU,a1,a3,a4,a5,a9,aE,aH,aJ,k,⟨T,bV,bA,bH⟩⟩:=hst;iterate 8 refine⟨?_,fun K G=> ?_⟩
    ·trivial
    all_goals try (go_simp;exact G _ M.out;done)
   iterate 2 (trivial)
   ·exact hst.elim
   ·trivial
  case bi=>
   intro J b t x c ht gS hst af bO K G
   cases J with
   | zero=>
    cases ht;cases bO
    cases b
    ·obtain⟨aU,a1,a3,a4,a5,a9,aE,aH,aJ,k⟩:=hst
     go_simp;exact aw (dL.out c) fun wc E=>G _ _ ⟨V aU E,V a1 E,V a3 E,V a4 E,V a5 E,V a9 E,V aE E,V aH E,V aJ E,ax k E,R rfl⟩
    obtain⟨aU,a1,a3,a4,a5,a9,aE,aH,aJ,k,⟨T,bV,bA,bH⟩⟩:=hst;go_simp;exact aw (dL.out c) fun wc E=>G _ _ ⟨V aU E,V a1 E,V a3 E,V a4 E,V a5 E,V a9 E,V aE E,V aH E,V aJ E,ax k E,⟨T,bV,aG bA E (am bA),bH⟩,R rfl⟩
   | succ J=>
    cases J with
    | zero=>
     cases ht;cases bO
     cases b
     ·exact absurd (gS (by kernel_rfl)) (by decide)
     obtain⟨aU,a1,a3,a4,a5,a9,aE,aH,aJ,k,⟨T,bV,bA,bH⟩,ch⟩:=hst;have dI:=bV.out;have aI:=ch.out;obtain⟨c6,cz,c7⟩:=dl bA;have ez:=br bA;have eA:=am bA;obtain⟨dA,gy⟩:=aY (bq (bq (bq bA 0 (B o a.1)) 1 (B o a.2.1)) 2 (B o a.2.2)) (((k.setCell (p:=⟨T,0,F⟩) bH.out (B o a.1)).setCell (p:=⟨T,1,F⟩) bH.out (B o a.2.1)).setCell (p:=⟨T,2,F⟩) bH.out (B o a.2.2));rw[dI,aI] at G |-;go_simp;exact G U _ ⟨gy.out,T,bV,by simpa using dA.out,bH,ch⟩
    | succ J=>
     simp at ht
  case hF=>
   intro J x c bS hst af bO K G;have bS:J<=2:=bS;cases bO
   rcases(show J=0∨J=1∨J=2 by omega) with rfl | rfl | rfl
   ·obtain⟨aU,a1,a3,a4,a5,a9,aE,aH,aJ,k⟩:=hst
    go_simp;exact G (ad (D ⟨c.heap.size,0,F⟩)) _ ⟨aD aU (Y #[B o 0, B o 0, B o 0] 53),aD a1 (Y #[B o 0, B o 0, B o 0] 53),aD a3 (Y #[B o 0, B o 0, B o 0] 53),aD a4 (Y #[B o 0, B o 0, B o 0] 53),aD a5 (Y #[B o 0, B o 0, B o 0] 53),aD a9 (Y #[B o 0, B o 0, B o 0] 53),aD aE (Y #[B o 0, B o 0, B o 0] 53),aD aH (Y #[B o 0, B o 0, B o 0] 53),aD aJ (Y #[B o 0, B o 0, B o 0] 53),k.alloc k.size (Y #[B o 0, B o 0, B o 0] 53),⟨c.heap.size,R rfl,aQ c (Y #[B o 0, B o 0, B o 0] 53),R k.size⟩⟩
   ·obtain⟨aU,a1,a3,a4,a5,a9,aE,aH,aJ,k,ch⟩:=hst
    go_simp;exact G (ad (D ⟨c.heap.size,0,F⟩)) _ ⟨aD aU (Y #[B o 0, B o 0, B o 0] 53),aD a1 (Y #[B o 0, B o 0, B o 0] 53),aD a3 (Y #[B o 0, B o 0, B o 0] 53),aD a4 (Y #[B o 0, B o 0, B o 0] 53),aD a5 (Y #[B o 0, B o 0, B o 0] 53),aD a9 (Y #[B o 0, B o 0, B o 0] 53),aD aE (Y #[B o 0, B o 0, B o 0] 53),aD aH (Y #[B o 0, B o 0, B o 0] 53),aD aJ (Y #[B o 0, B o 0, B o 0] 53),k.alloc k.size (Y #[B o 0, B o 0, B o 0] 53),⟨c.heap.size,R rfl,aQ c (Y #[B o 0, B o 0, B o 0] 53),R k.size⟩,ch⟩
   ·exact hst.elim
  obtain⟨k,T,bV,bA,bH,ch⟩:=hst;have ak:=bV.out;have fl:=ch.out;rw[ak,fl];obtain⟨ci,rfl⟩:=ai c;obtain⟨cG,de,fb,dW⟩:=df bA (c9.out.below k) (bo fa.out k) (dZ.out.trans (k.mono dZ.out.size));have hC:=bH.out;have hu:=k.size;clear ak fl bV ch bA k bH aU a1 a3 a4 a5 a9 aE aH aJ dL c9 fa dZ;obtain⟨cA,cS,gr⟩:=de.out.dS.nr;subst gr;have be:Below ci.heap.size ci ci:=aX;have co:=fun(u:ah) (W':World)=>t6 u.1 u.2.1 u.2.2 a.1 a.2.1 a.2.2 W';have eG:=R co;clear co
  go_outline
  go_upto_block 2 with fail
  go_cut [11] from 23 to 150 (fun v cj=>v= B o (e9 a sts:Int)/\Hid (Below ci.heap.size ci cj))
  case first=>
   go_wp2_with fail
   go_loopw [11] (fun v wr=>∃aO:Nat,aO<=e9 a sts/\v= B o aO/\Hid (Below ci.heap.size ci wr)) (fun v _=>sts.length-(intOf v).toNat)
   case atStart=>exact⟨0,by omega,rfl,R be⟩
   obtain⟨aO,dA,rfl,N⟩:=hrel;have hJ:=rl a sts;have cO:=de.out.below N.out;have b8:=cO.cell;by_cases eh:aO < sts.length
   ·obtain⟨u,aL⟩:∃u,sts[aO]? =D u:=⟨_,bb eh⟩
    obtain⟨dK,bU,_⟩:=cO.dS.row;obtain⟨y,bk,_,bB,_,_,_,_⟩:=dF bU (show 0 < sts.length by omega);injection bB with aZ bm q3
    clear bm q3;subst aZ;obtain⟨c3,bs,bt,bu,_,_⟩:=cO.dS.at_ aL;have gH:(aO:Int) < (sts.length:Int):=by omega
    have gG:(0:Int)<=(aO:Int):=by omega
    obtain⟨bD,aK⟩:=ai (hI u.1 a);have co:=eG.out u.1;rw[show((u.1.1,u.1.2.1,u.1.2.2):ah)=u.1 from rfl,show((a.1,a.2.1,a.2.2):ah)=a from rfl,<-aK] at co;obtain⟨eH,bj⟩:=aY co (a7 aL aK);have bg:=aG cG.out N.out (am cG.out);obtain⟨b0,b1,aC⟩:=dl bg;obtain⟨bL,rfl⟩:=ai wr;have aM:=N;clear aL aK bU co bg cO N
    go_wp2_with fail
    refine bW (fin:= ?bZ) [B o (aO:Int), ad (D ⟨g,5,F⟩), O (D ⟨y,0,F⟩) sts.length cS, B o (sts.length:Int), aa S, aa S, ad (D ⟨g,5,F⟩), O (D ⟨y,0,F⟩) sts.length cS, B o (aO:Int), ad (D ⟨y,aO*4,F⟩), ad (D ⟨y,aO*4,F⟩),bK u.1,bK a, aa bD, aa bD] ?hf bp (by kernel_rfl) rfl fun c k=> ?_;case hf=>simp only[aT,a6,bd,ba,bc];exact rfl
    have M:=R k;obtain⟨b8,bs,bt,bu,b0,b1,aC⟩:=kD k b8 bs bt bu b0 b1 aC;constructor
    ·iterate 15 refine⟨?_,fun K G=> ?_⟩
     ·trivial
     ·cases bD <;> (go_simp;exact G _ M.out)
     ·go_simp;exact aw (eH.out _) fun wc E=>G _ (ax k E)
     iterate 13 (go_simp;exact G _ M.out)
    have bh:=R (aM.out.trans (k.mono aM.out.size));clear k b8 bs bt bu b0 b1 aC eH aM
    cases bD with
    | true=>
     have dH:=p3 (p:=fun s:aP=>hI s.1 a) bj.out.1 bj.out.2.symm dA;have gF:aO+1<=e9 a sts:=dH;have gT:b7.wrap ((aO:Int)+1)=((aO+1:Nat):Int):=by rw[ca _ (by omega)];omega
     clear dH bj;go_wp2;go_roundw
     case rel=>exact⟨aO+1,gF,by first | rfl | go_num,bh⟩
     case measure=>simp[intOf];omega
    | false=>
     have cU:e9 a sts=aO:=p4 (p:=fun s:aP=>hI s.1 a) bj.out.1 bj.out.2.symm dA;have b6:=R cU;clear bj cU
     go_wp2_with fail
     go_meet
     case rel=>exact⟨by rw[b6.out],bh⟩
   obtain rfl:aO=sts.length:=by omega
   obtain⟨bL,rfl⟩:=ai wr;have aM:=N;clear cO N
   go_wp2_with fail
   refine bW (fin:= ?g3) [B o (sts.length:Int), ad (D ⟨g,5,F⟩), O cA sts.length cS, B o (sts.length:Int), aa Q, aa Q,U,U,U,U,U,U,U,U, aa Q] ?hf bp (by kernel_rfl) rfl fun c k=> ?_;case hf=>simp only[aT,a6,bd,ba,bc];exact rfl
   have M:=R k;have b8:=V b8 k;constructor
   ·iterate 15 refine⟨?_,fun K G=> ?_⟩
    ·trivial
    iterate 15 (go_simp;exact G _ M.out)
   obtain⟨bh,b6⟩:=aY (aM.out.trans (k.mono aM.out.size)) (show e9 a sts=sts.length by omega);clear k aM b8
   go_wp2_with fail
   go_meet
   case rel=>exact⟨by rw[b6.out],bh⟩
  obtain⟨bl,E⟩:=hcut;subst bl;obtain⟨fW,rfl⟩:=ai wc;obtain⟨q,dC⟩:=ai (e9 a sts);rw[<-dC];have dD:q<=sts.length:=by rw[dC];exact rl a sts
  obtain⟨dj,cE,fc,dX,dg⟩:=dY dC (de.out.below E.out) (bo fb.out E.out) (dW.out.trans (E.out.mono dW.out.size)) (aG cG.out E.out (am cG.out));have hl:=E.out.size;clear dC E cG de fb dW eG be;go_upto_region 10 with fail
  obtain⟨hA,fv⟩:=ai (h4 a sts);have cD:=R fv;clear fv;go_cut [69] from 23 to 150 (fun v cj=>v= aa (!hA)/\Hid (Below fW.heap.size fW cj))
  case first=>
   have b8:=cE.out.cell;by_cases eh:q < sts.length
   ·obtain⟨u,aL⟩:∃u,sts[q]? =D u:=⟨_,bb eh⟩
    obtain⟨dK,bU,_⟩:=cE.out.dS.row;obtain⟨y,bk,_,bB,_,_,_,_⟩:=dF bU (show 0 < sts.length by omega);injection bB with aZ bm q3
    clear bm q3;subst aZ;obtain⟨c3,bs,bt,bu,_,_⟩:=cE.out.dS.at_ aL;have gH:(q:Int) < (sts.length:Int):=by omega
    have gG:(0:Int)<=(q:Int):=by omega
    have hK:¬((q:Int)=(sts.length:Int)):=by omega
    have hN:((q:Int)==(sts.length:Int))=Q:=by simp;omega
    have aK:(!db [(u.1.1,a.1),(u.1.2.1,a.2.1),(u.1.2.2,a.2.2)])= !hA:=by
     rw[yi,cD.out,yI (a:=a) (by rw[<-dj.out];exact aL)]
    have r:∀Z:World,(binOp .neq 53 (aq #[B o u.1.1, B o u.1.2.1, B o u.1.2.2]) (aq #[B o a.1, B o a.2.1, B o a.2.2])).run aj Z= .ok (aa (!hA)) Z:=fun Z=>by rw[<-aK];exact jJ _ _ _ _ _ _ _
    obtain⟨b0,b1,aC⟩:=dl dg.out;have fh:=R r;clear aL bU r aK;refine bW (fin:= ?z7) [B o (q:Int), ad (D ⟨g,5,F⟩), O (D ⟨y,0,F⟩) sts.length cS, B o (sts.length:Int), aa Q, aa Q, ad (D ⟨g,5,F⟩), O (D ⟨y,0,F⟩) sts.length cS, B o (q:Int), ad (D ⟨y,q*4,F⟩), ad (D ⟨y,q*4,F⟩),bK u.1,bK a, aa (!hA), aa (!hA)] ?hf bp (by kernel_rfl) rfl fun c k=> ?_;case hf=>simp only[aT,a6,bd,ba,bc];exact rfl
    have M:=R k;obtain⟨b8,bs,bt,bu,b0,b1,aC⟩:=kD k b8 bs bt bu b0 b1 aC;constructor
    ·iterate 15 refine⟨?_,fun K G=> ?_⟩
     ·trivial
     ·generalize (!hA)=bY at G |-
      cases bY <;> (go_simp;exact G _ M.out)
     ·have r:=fh.out
      (go_simp;exact G _ M.out)
     iterate 13 (go_simp;exact G _ M.out)
    have bh:=R k;clear k b8 bs bt bu b0 b1 aC fh
    go_wp2_with fail
    go_meet
    case rel=>exact⟨rfl,bh⟩
   have fK:q=sts.length:=by omega
   have gl:hA=Q:=by rw[cD.out];exact yH (by rw[<-dj.out];exact fK)
   subst fK gl;refine bW (fin:= ?z9) [B o (sts.length:Int), ad (D ⟨g,5,F⟩), O cA sts.length cS, B o (sts.length:Int), aa S, aa S,U,U,U,U,U,U,U,U, aa S] ?hf bp (by kernel_rfl) rfl fun c k=> ?_;case hf=>simp only[aT,a6,bd,ba,bc];exact rfl
   have M:=R k;have b8:=V b8 k;constructor
   ·iterate 15 refine⟨?_,fun K G=> ?_⟩
    ·trivial
    iterate 15 (go_simp;exact G _ M.out)
   have bh:=R k;clear k b8
   go_wp2_with fail
   go_meet
   case rel=>exact⟨rfl,bh⟩
  obtain⟨bl,E⟩:=hcut;subst bl;obtain⟨g1,rfl⟩:=ai wc;obtain⟨cF,f9,gc,dh⟩:=df (cE.out.below E.out) (bo fc.out E.out) (dX.out.trans (E.out.mono dX.out.size)) (aG dg.out E.out (am dg.out));have ho:=E.out.size;clear E dg cE fc dX;go_upto_if 69 with fail
  go_cut [12] from 23 to 150 (fun v cj=>∃d6:Value,Hid (eU w6 g W H (O ap nm az) (O an nc ay) (O ar L.length aA) d6 d6 (fB a sts) cj))
  case first=>
   cases hA with
   | true=>
    have cT:fB a sts=sts:=by unfold fB;rw[if_pos cD.out.symm]
    have h1:Hid (eU w6 g W H (O ap nm az) (O an nc ay) (O ar L.length aA) (O cA sts.length cS) (O cA sts.length cS) (fB a sts) g1):=by rw[cT];exact cF
    clear cT
    go_wp2_with fail
    go_meet
    case rel=>exact⟨_,h1⟩
   | false=>
    have cT:fB a sts=sts.take q++(a, [])::sts.drop q:=by unfold fB;rw[if_neg (by rw[<-cD.out];simp),<-dj.out]
    have eS:=R cT;obtain⟨dK,cW,fJ⟩:=cF.out.push (s:=(((0,0,0):ah),([]:List ah))) (u:= O F 0 0) (World.ownsRow_nil _ _ _ _);have b8:=cF.out.cell;have gM:=cF.out.cb.size;obtain⟨e2,e5,e8⟩:=cq cW fJ cW;clear cW fJ cT
    go_wp2_with (first
     | (at_builtin;go_loud (refine i0 Tryz.underlying27 rS rfl (by decide) (by decide) rfl (.tmp 71) (.tmp 73) rfl w6.heap.size (O cA sts.length cS) sts.length dK [B o 0, B o 0, B o 0, O F 0 0] rfl e2.out gM 1 _ rfl rfl rfl (rU _ _ _ _ _ _) (by omega) ?_);intro a8 Z eq gw ed;have cL:=e5.out a8 Z eq ed;have fA:=(ed.grown.block T (am dh.out) (fun e=>dy e8.out dh.out (by decide) e.symm)).trans dh.out;obtain⟨eC,bE,gP,_,_⟩:=dd eq;subst gP;have gi:=br cL.bT;have gZ:=am cL.bT;have gh:=cL.cell;have eR:=R cL;have eT:=R fA;clear eq gw ed cL fA)
     | fail)
    have dc:=R eR.out.store;have dO:Hid ((Z.setCell ⟨g,5,F⟩ (O eC (sts.length+1) bE)).heap[T]? =D (Y #[B o a.1, B o a.2.1, B o a.2.2] 53 (0,0))):=R (eV eT.out (show T≠g by omega) _);clear gi gZ gh eR eT b8 e2 e5 e8;generalize Z.setCell ⟨g,5,F⟩ (O eC (sts.length+1) bE)=wp at dc dO |-;obtain⟨ik,fL,_⟩:=dc.out.dS.row;obtain⟨y,bk,_,bB,_,_,_,_⟩:=dF fL (show 0 < (sts++ [((((0,0,0):ah),([]:List ah)):aP)]).length by simp);injection bB with aZ bm q3
    clear bm q3 fL;subst aZ;have cM:eU w6 g W H (O ap nm az) (O an nc ay) (O ar L.length aA) (O (D ⟨y,0,F⟩) (sts.length+1) bE) (O (D ⟨y,0,F⟩) (sts.length+1) bE) (hP ((((0,0,0):ah),([]:List ah)):aP) sts sts.length) wp:=by rw[Dt];exact dc.out
    have bz:=R cM;clear cM dc;go_loopw [12] (fun v wr=>∃j:Nat,q<=j/\j<=sts.length/\v= B o j/\Hid (eU w6 g W H (O ap nm az) (O an nc ay) (O ar L.length aA) (O (D ⟨y,0,F⟩) (sts.length+1) bE) (O (D ⟨y,0,F⟩) (sts.length+1) bE) (hP ((((0,0,0):ah),([]:List ah)):aP) sts j) wr)/\Hid (wr.heap[T]? =D (Y #[B o a.1, B o a.2.1, B o a.2.2] 53 (0,0)))) (fun v _=>(intOf v).toNat)
    case atStart=>exact⟨sts.length,dD,ce,rfl,bz,dO⟩
    clear bz dO;obtain⟨j,hX,fy,rfl,cM,fD⟩:=hrel;obtain⟨bL,rfl⟩:=ai wr;have bz:=cM;have cH:=fD;clear cM fD;have b8:=bz.out.cell;obtain⟨cJ,N,_⟩:=bz.out.dS.bT;have dz:T≠y:=fun e=>by have h1:=cH.out;rw[e,N] at h1;simp at h1
    by_cases gJ:q < j
    ·obtain⟨I,rfl⟩:∃I,j=I+1:=⟨j-1,by omega⟩
     obtain⟨s,et⟩:∃s,sts[I]? =D s:=⟨_,bb (by omega)⟩;obtain⟨u,bs,bt,bu,c0,er⟩:=bz.out.dS.at_ (Dr (z:=((((0,0,0):ah),([]:List ah)):aP)) et);obtain⟨cC,cK,aL,_,_⟩:=dd er;subst aL;obtain⟨bC,cY⟩:∃bC,(hP ((((0,0,0):ah),([]:List ah)):aP) sts (I+1))[I+1]? =D bC:=⟨_,bb (by rw[p5 fy];omega)⟩;obtain⟨u9,r0,cN,ct,ee,_⟩:=bz.out.dS.at_ cY;obtain⟨ff,fd⟩:=aY er et;clear cY;have gD:(0:Int)<=(I:Int):=by omega
     have gE:(I:Int) < (sts.length:Int)+1:=by omega
     have hG:(I:Int)+1 < (sts.length:Int)+1:=by omega
     have hH:(q:Int) < (I:Int)+1:=by omega
     have ia:b7.wrap (I:Int)=(I:Int):=by rw[ca _ (by omega)]
     clear et er
     go_wp2_with fail
     refine mb (fin:= ?z10) [10] [9,8,1,2,7,0,4,6,3,5] [S,S,S,S,S,S,S,S,S,S,Q] [Q,Q,Q,Q,Q,Q,Q,Q,Q,Q,Q] (fun x=> [ad (D ⟨g,5,F⟩), O (D ⟨y,0,F⟩) (sts.length+1) bE, B o ((I:Int)+1), ad (D ⟨g,5,F⟩), O (D ⟨y,0,F⟩) (sts.length+1) bE, B o ((I:Int)+1), B o (I:Int), ad (D ⟨y,I*4,F⟩), aq #[B o s.1.1, B o s.1.2.1, B o s.1.2.2, O cC s.2.length cK], ad (D ⟨y,(I+1)*4,F⟩),(x 0)]) (fun j _ c=>match j with | 0=>c.cell? ⟨g,5,F⟩=D (O (D ⟨y,0,F⟩) (sts.length+1) bE)/\c.cell? ⟨y,I*4,F⟩=D (B o s.1.1)/\c.cell? ⟨y,I*4+1,F⟩=D (B o s.1.2.1)/\c.cell? ⟨y,I*4+2,F⟩=D (B o s.1.2.2)/\c.cell? ⟨y,I*4+3,F⟩=D (O cC s.2.length cK)/\c.cell? ⟨y,(I+1)*4,F⟩=D (B o bC.1.1)/\c.cell? ⟨y,(I+1)*4+1,F⟩=D (B o bC.1.2.1)/\c.cell? ⟨y,(I+1)*4+2,F⟩=D (B o bC.1.2.2)/\c.cell? ⟨y,(I+1)*4+3,F⟩=D (u9)/\c.heap[y]? =D (.cells cJ 56 (0,0))/\Below bL.heap.size bL c | _=>∃aB:World,(aB.cell? ⟨g,5,F⟩=D (O (D ⟨y,0,F⟩) (sts.length+1) bE)/\aB.cell? ⟨y,I*4,F⟩=D (B o s.1.1)/\aB.cell? ⟨y,I*4+1,F⟩=D (B o s.1.2.1)/\aB.cell? ⟨y,I*4+2,F⟩=D (B o s.1.2.2)/\aB.cell? ⟨y,I*4+3,F⟩=D (O cC s.2.length cK)/\aB.cell? ⟨y,(I+1)*4,F⟩=D (B o bC.1.1)/\aB.cell? ⟨y,(I+1)*4+1,F⟩=D (B o bC.1.2.1)/\aB.cell? ⟨y,(I+1)*4+2,F⟩=D (B o bC.1.2.2)/\aB.cell? ⟨y,(I+1)*4+3,F⟩=D (u9)/\aB.heap[y]? =D (.cells cJ 56 (0,0))/\Below bL.heap.size bL aB)/\c=(((aB.setCell ⟨y,(I+1)*4,F⟩ (B o s.1.1)).setCell ⟨y,(I+1)*4+1,F⟩ (B o s.1.2.1)).setCell ⟨y,(I+1)*4+2,F⟩ (B o s.1.2.2)).setCell ⟨y,(I+1)*4+3,F⟩ (O cC s.2.length cK)) ?hf (by kernel_rfl) (by kernel_rfl) (fun _=>rfl) (by kernel_rfl) ?bl ⟨b8,bs,bt,bu,c0,r0,cN,ct,ee,N,aX.drew⟩ (fun x c hst=> ?hs) ?aK ?bi (fun x c hst=> ?_)
     case hf=>intro x;simp only[aT,a6,bd,ba,bc];exact rfl
     case bl=>
      intro x j t v h;cases j with
      | zero=>cases h;rfl
      | succ j=>simp at h
     case hs=>
      have M:=R hst;obtain⟨b8,bs,bt,bu,c0,r0,cN,ct,ee,N,k⟩:=hst;iterate 10 refine⟨?_,fun K G=> ?_⟩
      ·trivial
      all_goals try (go_simp;exact G _ M.out;done)
     case aK=>intro j x c _ _ _;trivial
     case bi=>
      intro j t x c ht hst af bO K G;obtain rfl:j=0:=by cases j with | zero=>rfl | succ j=>simp at ht
      cases ht;cases bO
      have M:=R hst;obtain⟨b8,bs,bt,bu,c0,r0,cN,ct,ee,N,k⟩:=hst;have ez:=br N;have eA:=am N;go_simp;exact G U _ ⟨_,M.out,rfl⟩
     obtain⟨aB,hst,cP⟩:=hst;obtain⟨b8,bs,bt,bu,c0,r0,cN,ct,ee,N,k⟩:=hst;have fN:=bo ff.out k;have bv:=(bz.out.below k).pJ (i:=I+1) (by rw[p5 fy];omega) s fN;rw[Du fd.out] at bv;have di:=R bv;have eX:Hid (((((aB.setCell ⟨y,(I+1)*4,F⟩ (B o s.1.1)).setCell ⟨y,(I+1)*4+1,F⟩ (B o s.1.2.1)).setCell ⟨y,(I+1)*4+2,F⟩ (B o s.1.2.2)).setCell ⟨y,(I+1)*4+3,F⟩ (O cC s.2.length cK)).heap[T]? =D (Y #[B o a.1, B o a.2.1, B o a.2.2] 53 (0,0))):=R (eV (eV (eV (eV (aG cH.out k (am cH.out)) dz _) dz _) dz _) dz _);clear bv fN k b8 bs bt bu c0 r0 cN ct ee N bz cH ff fd;rw[<-cP] at di eX;clear cP;go_wp2;go_roundw
     case rel=>exact⟨I,by omega,by omega,by first | rfl | go_num,di,eX⟩
     case measure=>simp[intOf]
    obtain rfl:j=q:=by omega
    have ez:=br N;have eA:=am N;obtain⟨b0,b1,aC⟩:=dl cH.out;have gD:(0:Int)<=(j:Int):=by omega
    have gE:(j:Int) < (sts.length:Int)+1:=by omega
    obtain⟨bC,cY⟩:∃bC,(hP ((((0,0,0):ah),([]:List ah)):aP) sts j)[j]? =D bC:=⟨_,bb (by rw[p5 dD];omega)⟩;obtain⟨u9,r0,cN,ct,ee,_⟩:=bz.out.dS.at_ cY;clear cY;have bv:=bz.out.pJ (i:=j) (by rw[p5 dD];omega) ((a, []):aP) (World.ownsRow_nil _ _ _ _);rw[Ds dD,<-eS.out] at bv;have di:=R bv;clear bv eS
    go_wp2_with fail
    go_meet
    case rel=>exact⟨_,di⟩
  obtain⟨d6,ac⟩:=hcut;obtain⟨bX,rfl⟩:=ai wc;obtain⟨c1,dE⟩:=ai (fB a sts);obtain⟨l,av⟩:=tT a sts;have es:=fun(p:ah->Bool) (t:ah)=>tO (p:=p) (t:=t) av;have du:=f1.out.ins a;rw[<-dj.out,<-dE] at av es;rw[<-dE] at du ac;have h2:=du.1;obtain⟨gI,ei⟩:=du.2 _ (List.mem_of_getElem? av);simp only at gI ei;have hY:=(List.getElem?_eq_some_iff.1 av).1;obtain⟨g4,c2,gu⟩:=ac.out.dS.nr;subst gu;obtain⟨dK,bU,_⟩:=ac.out.dS.row;obtain⟨y,bk,_,bB,_,_,_,_⟩:=dF bU (show 0 < c1.length by omega);injection bB with aZ bm q3
  clear bm q3;subst aZ;have b8:=ac.out.cell;obtain⟨c3,c6,cz,c7,bZ,bP⟩:=ac.out.dS.at_ av;simp only at bP c6 cz c7;obtain⟨cB,cl,bl,fE,gz⟩:=dd bP;subst bl;simp only[maxLen] at fE gz;have dM:=R (oq bP);obtain⟨p,cX⟩:=ai (pm L hts i);have be:Below w.heap.size w bX:=bQ.out.trans (ac.out.cb.out (by omega) (by omega) bQ.out.size);have eQ:=ac;obtain⟨dP,f4,ga,ha,dR,e4,dV,dT⟩:=l1 av ei es dE bP cX be (jM cI.out ac.out.cb (by simp[qg,bI]) (by simp[qg,bI]));have hT:(0:Int)<=(q:Int):=by omega
  have hU:(q:Int) < (c1.length:Int):=by omega
  have hj:=ac.out.cb.size;clear av ei es dE bP cX be ac du bU gc f9 cF dh cD;have bN:Below bX.heap.size bX bX:=aX;go_upto_block 6 with fail
  go_cut [14] from 23 to 150 (fun v cj=>v= B o ((l.takeWhile p).length:Int)/\Hid (Below bX.heap.size bX cj))
  case first=>
   go_wp2_with fail
   go_loopw [14] (fun v wr=>∃n:Nat,n<=(l.takeWhile p).length/\v= B o n/\Hid (Below bX.heap.size bX wr)) (fun v _=>l.length-(intOf v).toNat)
   case atStart=>exact⟨0,by omega,rfl,R bN⟩
   obtain⟨n,hn,rfl,N⟩:=hrel;have el:=p2 p l;obtain⟨bL,rfl⟩:=ai wr;have aM:=N;clear N;by_cases gK:n < l.length
   ·obtain⟨u,aL⟩:∃u,l[n]? =D u:=⟨_,bb gK⟩
    have ev:Below w.heap.size w bL:=dV.out.trans (aM.out.mono dV.out.size);have bP:=dR.out;obtain⟨aF,hg,_,bB,_,_,_,_⟩:=dF bP (show 0 < l.length by omega);injection bB with aZ bm q3
    clear bm q3;subst aZ;obtain⟨bY,cw,cy⟩:=ey bP aL;obtain⟨bY,cw,cy⟩:=lc aM.out bY cw cy;have eu:=f4.out u (List.mem_of_getElem? aL);obtain⟨d,dw⟩:=ai (L.idxOf u);have gA:d < L.length:=by rw[dw];exact List.idxOf_lt_length_of_mem eu
    have fI:dU L u=(d:Int):=by unfold dU;rw[if_pos eu,dw]
    obtain⟨dr,dJ,fi,gm,hw,fp,c4⟩:=Rd.int eO.out gA;subst gm;obtain⟨hd,ic,fj,gp,_,fq,c5⟩:=Rd.int eO.out eg;injection gp with aZ
    injection aZ with aZ bm
    subst aZ bm;have c4:=V c4 ev;have c5:=V c5 ev;have fM:=bo dT.out aM.out;have dp:=fun(W':World) (cQ:Below bL.heap.size bL W')=>rI (D ⟨gt,0,F⟩) dx L u W' ((Rd.dB fM).below cQ) (by omega);rw[fI] at dp;have eJ:=R dp;obtain⟨bD,aK⟩:=ai (p u);have fm:au (fi < fj)=bD:=by
     rw[aK,e4.out,pm,<-dw,cf,cf,fp,fq];rfl
    obtain⟨cn,bj⟩:=aY fm (a7 aL aK);have hS:(n:Int) < (l.length:Int):=by omega
    have hR:(0:Int)<=(n:Int):=by omega
    have hy:(0:Int)<=(d:Int):=by omega
    have hz:(d:Int) < (L.length:Int):=by omega
    clear aL bP eu dw fI fp fq fM dp aK fm ev
    go_wp2_with fail
    refine bW (fin:= ?z12) [B o (n:Int), O (D ⟨aF,0,F⟩) l.length cl, B o (l.length:Int), aa S, aa S, O (D ⟨dr,dJ,F⟩) L.length d9, O (D ⟨gt,0,F⟩) L.length dx, O (D ⟨aF,0,F⟩) l.length cl, B o (n:Int), ad (D ⟨aF,n*3,F⟩),bK u, B o (d:Int), ad (D ⟨dr,dJ+d,F⟩), B o fi, O (D ⟨dr,dJ,F⟩) L.length d9, B o (i:Int), ad (D ⟨dr,dJ+i,F⟩), B o fj, aa bD, aa bD] ?hf bp (by kernel_rfl) rfl fun c k=> ?_;case hf=>simp only[aT,a6,bd,ba,bc];exact rfl
    have M:=R k;obtain⟨bY,cw,cy,c4,c5⟩:=mc k bY cw cy c4 c5;constructor
    ·iterate 20 refine⟨?_,fun K G=> ?_⟩
     ·trivial
     ·cases bD <;> (go_simp;exact G _ M.out)
     ·have cQ:=cn.out
      (go_simp;exact G _ M.out)
     iterate 6 (go_simp;exact G _ M.out)
     ·go_simp;exact aw (eJ.out _ k) fun wc E=>G _ (ax k E)
     iterate 11 (go_simp;exact G _ M.out)
    have bh:=R (aM.out.trans (k.mono aM.out.size));clear k bY cw cy c4 c5 eJ aM cn
    cases bD with
    | true=>
     have cV:n+1<=(l.takeWhile p).length:=p3 bj.out.1 bj.out.2.symm hn;have gT:b7.wrap ((n:Int)+1)=((n+1:Nat):Int):=by rw[ca _ (by omega)];omega
     clear bj;go_wp2;go_roundw
     case rel=>exact⟨n+1,cV,by first | rfl | go_num,bh⟩
     case measure=>simp[intOf];omega
    | false=>
     have cU:(l.takeWhile p).length=n:=p4 bj.out.1 bj.out.2.symm hn;have b6:=R cU;clear bj cU
     go_wp2_with fail
     go_meet
     case rel=>exact⟨by rw[b6.out],bh⟩
   obtain rfl:n=l.length:=by omega
   have b6:=R (show(l.takeWhile p).length=l.length by omega)
   go_wp2_with fail
   refine bW (fin:= ?z14) [B o (l.length:Int), O cB l.length cl, B o (l.length:Int), aa Q, aa Q,U,U,U,U,U,U,U,U,U,U,U,U,U,U, aa Q] ?hf bp (by kernel_rfl) rfl fun c k=> ?_;case hf=>simp only[aT,a6,bd,ba,bc];exact rfl
   have M:=R k;constructor
   ·iterate 20 refine⟨?_,fun K G=> ?_⟩
    ·trivial
    iterate 20 (go_simp;exact G _ M.out)
   have bh:=R (aM.out.trans (k.mono aM.out.size));clear k aM
   go_wp2_with fail
   go_meet
   case rel=>exact⟨by rw[b6.out],bh⟩
  obtain⟨bl,E⟩:=hcut;subst bl;obtain⟨bx,rfl⟩:=ai wc;obtain⟨n,hn⟩:=ai ((l.takeWhile p).length);rw[<-hn];have el:n<=l.length:=by rw[hn];exact p2 p l
  obtain⟨f6,b4,f8,e7⟩:=df hn (eQ.out.below E.out) (bo dT.out E.out) (bo dR.out E.out);have hk:=E.out.size;have hQ:(0:Int)<=(n:Int):=by omega
  have cV:(n:Int)<=(l.length:Int):=by omega
  have ej:(n:Int)<=(cl:Int):=by omega
  have ek:(l.length:Int)<=(cl:Int):=by omega
  clear hn E eQ dT dR dV b8 c6 cz c7 bZ bN;obtain⟨aE,aH,aJ⟩:=ey f8.out fe.out;have e6:=R (BO (q:=n) (Rd.dB e7.out) el);have bN:Below bx.heap.size bx bx:=aX;have f0:=R bN;clear bN
  go_wp2_with (first
   | ((fail_if_success (have dI:=HDONE));at_builtin;refine mE Tryz.underlying54 jm rfl (by decide) rfl _ _ rfl rfl cB n cl (bn (l.take n)) rfl dM.out e6.out (rY _) (by omega) (by omega) ?_;intro id ih em cu;obtain⟨fX,nW,gN,_,_⟩:=dd em;subst gN;have HDONE:=trivial;have eY:=R em;have eM:=R cu;replace aE:=V aE cu;replace aH:=V aH cu;replace aJ:=V aJ cu;have gL:=cu.size;clear em cu)
   | (have dI:=HDONE;clear dI;at_builtin;go_loud (refine i0 Tryz.underlying54 jm rfl (by decide) (by decide) rfl (.tmp 134) (.tmp 139) rfl bx.heap.size (O fX n nW) n (bn (l.take n)) [B o t.1, B o t.2.1, B o t.2.2] rfl eY.out gL 1 _ rfl rfl rfl (jX _ _ _) (by omega) ?_);intro ie fV en fr gB;obtain⟨eD,mH,gO,_,_⟩:=dd en;subst gO;have f7:=R en;have ck:=R (eM.out.trans fr);clear en fr gB)
   | fail)
  have b8:=(b4.out.below ck.out).cell;obtain⟨c3,c6,cz,c7,bZ,_⟩:=(b4.out.below ck.out).dS.at_ dP.out;obtain⟨cJ,N,_⟩:=(b4.out.below ck.out).dS.bT;have h3:=ck.out.size;obtain⟨c8,eb⟩:∃c8:Option Addr,c8=if cl=n then cB else Option.map (fun x=>x.add (n*3)) cB:=⟨_,rfl⟩;have ex:=BM (Rd.dB e7.out) el fE;have ew:=BN (q:=n) dM.out;rw[<-eb] at ex ew;obtain⟨fZ,ge,gd⟩:=cq eb (ex.below ck.out) ew;have hx:l.length-n<=1000:=by omega
  clear eb ex ew dM e6 f0 HDONE eY eM aE aH aJ;refine ir (fin:= ?z15) [7,10] [[S,S,S,S,S,S,S,Q,S,S,Q], [S,S,S,Q,Q,Q,Q,Q,S,S,Q], [Q,Q,Q,Q,Q,Q,Q,Q,Q,Q,Q]] [[3,6,4,5], [9,7,8,3,6,1,2,4,5,0]] (fun x=> [ad (D ⟨g,5,F⟩), O (D ⟨y,0,F⟩) c1.length c2, B o (q:Int), O eD (n+1) mH, O cB l.length cl, B o (n:Int), O c8 (l.length-n) (cl-n),(x 0), ad (D ⟨y,q*4,F⟩), ad (D ⟨y,q*4+3,F⟩),(x 1)]) (fun J x c=>match J with | 0=>c.cell? ⟨g,5,F⟩=D (O (D ⟨y,0,F⟩) c1.length c2)/\c.cell? ⟨y,q*4+3,F⟩=D (c3)/\c.heap[y]? =D (.cells cJ 56 (0,0))/\Below fV.heap.size fV c | 1=>c.cell? ⟨g,5,F⟩=D (O (D ⟨y,0,F⟩) c1.length c2)/\Hid (Below bx.heap.size bx c)/\Hid (c.ownsRow bx.heap.size 53 3 (x 0) (l.length+1) (bn (fC p l t))) | _=>∃aB:World,Hid (Below bx.heap.size bx aB)/\Hid (aB.ownsRow bx.heap.size 53 3 (x 0) (l.length+1) (bn (fC p l t)))/\c=aB.setCell ⟨y,q*4+3,F⟩ (x 0)) ?hf (by kernel_rfl) (by kernel_rfl) (fun _=>rfl) (by kernel_rfl) ?bl ⟨b8,bZ,N,aX.drew⟩ ?hA ?bi (fun x c hst=> ?he)
  case hf=>intro x;simp only[aT,a6,bd,ba,bc];exact rfl
  case bl=>
   intro x J t v h
   cases J with
   | zero=>cases h;rfl
   | succ J=>
    cases J with
    | zero=>cases h;rfl
    | succ J=>
     simp at h
  case hA=>
   intro J x c bS hst;have bS:J<=2:=bS;rcases(show J=0∨J=1∨J=2 by omega) with rfl | rfl | rfl
   ·have M:=R hst
    obtain⟨b8,bZ,N,k⟩:=hst;iterate 9 refine⟨?_,fun K G=> ?_⟩
    ·trivial
    all_goals try (go_simp;exact G _ M.out;done)
    go_simp;rw[<-fZ.out];exact G _ M.out
   ·have M:=R hst
    obtain⟨b8,h1,ab⟩:=hst;iterate 5 refine⟨?_,fun K G=> ?_⟩
    ·trivial
    all_goals try (go_simp;exact G _ M.out;done)
   ·trivial
  case bi=>
   intro J t x c ht hst af bO K G
   cases J with
   | zero=>
    cases ht;cases bO
    obtain⟨b8,bZ,N,k⟩:=hst;have cW:=bo f7.out k;have ib:=k.size;refine CQ Tryz.underlying54 jm rfl (by decide) rfl _ _ rfl bx.heap.size (O eD (n+1) mH) (n+1) (bn (l.take n)++ [B o t.1, B o t.2.1, B o t.2.2]) (bn (l.drop n)) rfl cW (by omega) c8 (l.length-n) (cl-n) rfl gd.out (ge.out.below k) (rY _) (by omega) (by omega) (fun g0 g2 h1 ab=>G g0 g2 ?_);rw[zh f6.out,show n+1+(l.length-n)=l.length+1 by omega] at h1;have ag:=(ax ck.out k).trans ab;exact⟨(b4.out.below ag).cell,R ag,R h1⟩
   | succ J=>
    cases J with
    | zero=>
     cases ht;cases bO
     obtain⟨b8,h1,ab⟩:=hst;obtain⟨g6,hr,fO,_⟩:=dd ab.out;obtain⟨cJ,N,_⟩:=(b4.out.below h1.out).dS.bT;obtain⟨c3,_,_,_,bZ,_⟩:=(b4.out.below h1.out).dS.at_ dP.out;have ez:=br N;have eA:=am N;rw[fO] at G |-;go_simp;refine G U _ ⟨c,h1, ?_, ?_⟩;·exact ab
     ·rw[show gj x (0+1) U 0=x 0 from rfl,fO]
    | succ J=>
     simp at ht
  obtain⟨aB,h1,ab,cP⟩:=hst;have aL:=dn ab.out (show w6.heap.size<=bx.heap.size by omega);rw[<-tR p l t] at aL;have bv:=(b4.out.below h1.out).rK dP.out aL;rw[<-cP,<-ga.out] at bv;have fw:d5 L A hts (i+1)=dH a p t sts:=by
   rw[d5,<-fY.out,<-e4.out,<-gb.out,cf,fe.out];rfl
  rw[<-fw] at bv;have f2:=R bv;obtain⟨hb,gv⟩:=ai (x 0);clear bv fw aL h1 ab cP gv;have h9:b7.wrap ((i:Int)+1)=((i+1:Nat):Int):=by rw[ca _ (by omega)];omega
  go_wp2;go_roundw
  case rel=>exact⟨i+1,_,by omega,by first | rfl | go_num,f2⟩
  case measure=>simp[intOf];omega
 obtain rfl:i=L.length:=by omega
 obtain⟨bM,bk,gq⟩:=ac.out.dS.nr;subst gq;have aS:=ac.out.cb.il fg.out (show w.heap.size+1≠g by omega) (show w.heap.size+1≠g by omega);have fu:=ac.out.bT;obtain⟨c6,cz,c7,bZ,it,g3⟩:=cx fu;obtain⟨bY,cw,cy,im,io,ip⟩:=cx aS;have iq:=br aS;have is:=am aS;clear fu;have gf:=R aS;clear aS
 go_wp2_with fail
 have aS:=gf.out;have cV:=dy b9.out.1 b3.out (by decide);have ej:=dy b9.out.2.1 b3.out (by decide);have ek:=dy b9.out.2.2 b3.out (by decide);have gx:Below w.heap.size w wr:=bQ.out.trans (ac.out.cb.out (by omega) (by omega) bQ.out.size);have fz:=kU aS (B o W) (B o H) (O ap nm az) (O an nc ay) (O ar L.length aA) (O bM (d5 L A hts L.length).length bk);have fR:=hM (jM b9.out.1 ac.out.cb cV cV) aS (by decide) (B o W) (B o H) (O ap nm az) (O an nc ay) (O ar L.length aA) (O bM (d5 L A hts L.length).length bk);have fS:=hM (jM b9.out.2.1 ac.out.cb ej ej) aS (by decide) (B o W) (B o H) (O ap nm az) (O an nc ay) (O ar L.length aA) (O bM (d5 L A hts L.length).length bk);have fT:=hM (jM b9.out.2.2 ac.out.cb ek ek) aS (by decide) (B o W) (B o H) (O ap nm az) (O an nc ay) (O ar L.length aA) (O bM (d5 L A hts L.length).length bk)
 have fU:=ac.out.dS.jh aS (by decide) (by decide) (B o W) (B o H) (O ap nm az) (O an nc ay) (O ar L.length aA) (O bM (d5 L A hts L.length).length bk);have fs:=kT gx (Nat.le_succ w.heap.size) (B o W) (B o H) (O ap nm az) (O an nc ay) (O ar L.length aA) (O bM (d5 L A hts L.length).length bk);generalize ((((((wr.setCell ⟨w.heap.size+1,0,F⟩ (B o W)).setCell ⟨w.heap.size+1,1,F⟩ (B o H)).setCell ⟨w.heap.size+1,2,F⟩ (O ap nm az)).setCell ⟨w.heap.size+1,3,F⟩ (O an nc ay)).setCell ⟨w.heap.size+1,4,F⟩ (O ar L.length aA)).setCell ⟨w.heap.size+1,5,F⟩ (O bM (d5 L A hts L.length).length bk))=wF at fz fR fS fT fU fs |-;obtain⟨gU,I,gV,gW,gX,gY⟩:=cx fz;exact bodyPost_ret (v:= aq #[B o W, B o H, O ap nm az, O an nc ay, O ar L.length aA, O bM (d5 L A hts L.length).length bk]) (by simp[results,Tryz.results40,go_sem,gU,I,gV,gW,gX,gY]) rfl ⟨ap,az,an,ay,ar,aA,bM,_,bk,rfl,rfl,dn fR (by omega),dn fS (by omega),dn fT (by omega),fU.mono (by have:=bQ.out.size;omega),fs⟩
end
end Go.Proofs.YteaeipgfjmnecaaGreatDoor

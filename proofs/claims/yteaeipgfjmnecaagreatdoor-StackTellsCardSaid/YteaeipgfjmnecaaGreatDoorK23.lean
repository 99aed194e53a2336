/- Lemmas; each says its own conditions. -/
import Derived.Test.YteaeipgfjmnecaaGreatDoorK22
open And renaming intro->a7
open Bool renaming and_eq_true->cu,false->Q,true->S
open Decidable renaming decide->au
open Go renaming Value->ae,World->ac,heap_alloc_new->aQ,undef->U
open Go.Act renaming put->a6
open Go.IntKind renaming i64->b7
open Go.IntWalk renaming i64_in->ca
open Int renaming eq_ofNat_of_zero_le->lo
open Go.IntKind renaming i64->o
open List renaming getD_eq_getElem?_getD->cf,getElem?_eq_getElem->bb,idxOf_lt_length_of_mem->gK,setIfInBounds_toArray->bd,set_cons_succ->ba,set_cons_zero->bc,take_length->DH
open Go.Obj renaming cells->Y
open Option renaming none->F,some->D
open Go.Proofs.Tryz renaming prog->aj
open Go.Value renaming agg->aq,bool->aa,int->B,pointer->ad,slice->O
namespace Go.Proofs.YteaeipgfjmnecaaGreatDoor
set_option linter.unusedSimpArgs false
set_option linter.unusedVariables false
set_option maxHeartbeats 12800000
set_option maxRecDepth 100000
section
open Go.RowKit Go.Maps
variable {sts:List aP}{L:List ah}{ms:List aR}{i q:Nat}{s:aP}{t:ah}
theorem A2{W H:Int}{mask:List Int}{cs:List bw}(h:fu W H mask cs=S):∃J P:Nat,W=J/\H=P/\(1<=J/\J<=8)/\(1<=P/\P<=8)/\mask.length=J*P:=by
 unfold fu at h;simp only[cu,iB,decide_eq_true_eq] at h;obtain⟨⟨⟨⟨h1,ab⟩,ag⟩,_⟩,_⟩:=h;obtain⟨J,rfl⟩:=lo (show 0<=W by omega);obtain⟨P,rfl⟩:=lo (show 0<=H by omega);refine⟨J,P,rfl,rfl,by omega,by omega, ?_⟩;have:(mask.length:Int)=((J*P:Nat):Int):=by rw[ag];simp
 omega
theorem eS.Bk(h:eS L ms sts i q)(br:sts[i]? =D s)(a9:bA L ms (L.idxOf t)=s.1)(bH:t ∉ s.2.take q)(fG:∀(j:Nat) (a:aP),j < i->sts[j]? =D a->a.1≠s.1):t ∉ cv sts i q:=by
 intro a3;rcases pv a3 with ⟨j,a,aW,aU,fM⟩ | ⟨dX,eI,hts⟩
 ·obtain⟨p,cF⟩:=List.getElem?_of_mem fM
  obtain⟨_,ct,_⟩:=h.ay j a p t (.inl aW) aU cF;exact fG j a aW aU (ct.symm.trans a9)
 rw[br] at eI;cases eI
 exact bH hts
theorem Rd.CY{w:ac}{A:Option Addr}{l:List ah}(h:Rd w 3 A l.length (bn l))(eG:q<=l.length):Rd w 3 A q (bn (l.take q)):=by
 have e:bn l=bn (l.take q)++bn (l.drop q):=by rw[<-jl,List.take_append_drop]
 refine⟨by rw[iw];simp;omega,fun h0=> ?_⟩;obtain⟨b,fP,ap,ak,fz⟩:=h.2 (by omega);refine⟨b,fP,ap,ak,fun j u aW=>fz j u ?_⟩;rw[e,List.getElem?_append_left (List.getElem?_eq_some_iff.1 aW).1];exact aW
structure kR(L:List ah)(ms:List aR)(sts:List aP)(i q:Nat):Prop where
 inv:eS L ms sts i q
 eR:(cv sts i q).Nodup
theorem kR.len(h:kR L ms sts i q):(cv sts i q).length<=L.length:=h.inv.uj h.eR
theorem kR.step(h:kR L ms sts i q)(br:sts[i]? =D s)(ht:s.2[q]? =D t)(ci:s.2≠ [])(fE:∀(j:Nat) (a:aP),j+1=i->sts[j]? =D a->c3 a.1 s.1)(h1:t ∈ L)(ab:t ∉ cv sts i q)(ag:bA L ms (L.idxOf t)=s.1):kR L ms sts i (q+1):=by
 refine⟨h.inv.vT br ht ci fE h1 ag ab, ?_⟩;rw[lV br ht,List.nodup_append];refine⟨h.eR,by simp,fun a aU b be e=> ?_⟩;rw[List.mem_singleton] at be;subst be;subst e;exact ab aU
theorem CG(W H:Int)(Am Ac Ap As:Option Addr)(nm cm nc cc np cp ns cS:Nat)(mask:List Int)(cs:List bw)(ms:List aR)(sts:List aP)(w:ac)(a3:Rd w 1 Am nm (bF mask))(hc:Rd w 5 Ac nc (cr cs))(cF:Rd w 6 Ap np (b5 ms))(hst:en w As ns sts)
  (hnm:nm<=140737488351232) (hnc:nc<=140737488351232) (hnp:np<=140737488351232):
  Calls aj 8 #[aq #[B o W, B o H, O Am nm cm, O Ac nc cc, O Ap np cp, O As ns cS]] w fun e Z=>e= .returned (aa (g7 W H mask cs ms sts))/\Below w.heap.size w Z:=by
 have eK:=aQ w (Y #[B o W, B o H, O Am nm cm, O Ac nc cc, O Ap np cp, O As ns cS] 29);have aD:=aV w (Y #[B o W, B o H, O Am nm cm, O Ac nc cc, O Ap np cp, O As ns cS] 29);obtain⟨a0,ao,a2,bh,aO,bi⟩:=cx eK;have bO:=Cn W H Am Ac nm cm nc cc mask cs (w.alloc (Y #[B o W, B o H, O Am nm cm, O Ac nc cc, O Ap np cp, O As ns cS] 29)) (a3.below aD) (hc.below aD) hnm hnc;obtain⟨I,dh,dn,dl⟩:=df hst aD (cF.below aD) (a7 (a3.below aD) (hc.below aD));obtain⟨dr,cD⟩:=ai (g7 W H mask cs ms sts);rw[<-cD];have eJ:iz W H mask cs ms sts->dr=S:=fun h=>cD.trans (vG h);have eA:¬iz W H mask cs ms sts->dr=Q:=fun h=>cD.trans (nu h);obtain⟨e1,bL⟩:=aY eJ eA
 clear eJ eA cD a3 hc cF hst aD eK;by_cases aS:fu W H mask cs=S
 rotate_left
 ·have aS:fu W H mask cs=Q:=by simpa using aS
  rw[aS] at bO;obtain⟨bI,a8⟩:=aY bO (bL.out (fun h=>by have:=h.lf;rw[aS] at this;cases this));clear bO aS;go_in
  go_wp2_with (go_at_call 26;refine aw bI.out fun bu M=> ?_;have bz:=R (ax dh.out M);clear M)
  go_ret;exact⟨cW a8.out.symm,bz.out⟩
 rw[aS] at bO;have bI:=R bO;obtain⟨J,P,rfl,rfl,hW,dv,dP⟩:=A2 aS;have cb:((J:Int)).toNat=J:=by omega
 obtain⟨L,bk⟩:=ai (bG J mask);have fB:0 < L.length:=by
  have h1:=aS;unfold fu at h1;simp only[cu] at h1;have ab:=h1.2.2;rw[cb,<-bk] at ab
  cases av:L with
  | nil=>rw[av] at ab;simp[gc] at ab
  | cons a l=>simp
 have ev:∀t ∈ L,eD t:=fun t ht=>by
  rw[bk] at ht;have:=lg (by omega) dP ht;exact⟨by omega,by omega,this.2.2.2.2⟩
 have fF:L.length<=1000:=by
  have h1:=ny J mask;have ab:J*P<=8*8:=Nat.mul_le_mul hW.2 dv.2;rw[bk];omega
 have eq:iz (J:Int) (P:Int) mask cs ms sts↔fp L (fr Q cs) ms/\eo L ms sts:=by
  constructor
  ·rintro⟨s1,s2,s3⟩
   rw[cb,<-bk] at s2 s3;exact⟨s2,s3⟩
  rintro⟨s1,s2⟩;exact⟨aS,by rw[cb,<-bk];exact s1,by rw[cb,<-bk];exact s2⟩
 have bM:=R eq;have ep:=(⟨hW,dv,dP,dl.out.1,dl.out.2,hnc⟩:eF _ J P Am nm mask Ac nc cs);obtain⟨ei,d9,eV⟩:=cq ep bk ev;clear bO eq ep hW dv dP dl aS cb bk ev;obtain⟨e2,dy⟩:=ai (mZ L (fr Q cs) ms);have ea:=R dy;have bC:=fun(bu:ac) (be:Below (w.alloc (Y #[B o (J:Int), B o (P:Int), O Am nm cm, O Ac nc cc, O Ap np cp, O As ns cS] 29)).heap.size (w.alloc (Y #[B o (J:Int), B o (P:Int), O Am nm cm, O Ac nc cc, O Ap np cp, O As ns cS] 29)) bu)=>Az J P Am Ac Ap nm cm nc cc np cp mask cs ms bu (ei.out.below be) (dn.out.below be) hnp;rw[<-d9.out,<-dy] at bC;have ck:=R bC;clear bC dy;cases e2
 ·have a8:=R (bL.out (fun h=>by have h1:=um (bM.out.1 h).1;rw[<-ea.out] at h1;cases h1))
  go_in
  go_wp2_with (first
   | (go_at_call 26;refine aw bI.out fun bu M=> ?_;have bz:=R M;replace a0:=V a0 M;replace ao:=V ao M;replace a2:=V a2 M;replace bh:=V bh M;replace aO:=V aO M;clear M bI bi)
   | (go_at_call 27;refine aw (ck.out _ bz.out) fun fR T=> ?_;have bV:=R (ax dh.out (ax bz.out T));clear T ck a0 ao a2 bh aO))
  go_ret;exact⟨cW a8.out.symm,bV.out⟩
 have dz:=Ax.1 ea.out.symm;have eB:ms.length=L.length:=dz.len;have fJ:np=L.length:=by
  have:=dn.out.1;rw[l4] at this;omega
 subst fJ;have eb:=R dz;clear dz;have cZ:=fun(bu:ac) (be:Below (w.alloc (Y #[B o (J:Int), B o (P:Int), O Am nm cm, O Ac nc cc, O Ap L.length cp, O As ns cS] 29)).heap.size (w.alloc (Y #[B o (J:Int), B o (P:Int), O Am nm cm, O Ac nc cc, O Ap L.length cp, O As ns cS] 29)) bu)=>lh J P Am Ac nm cm nc cc mask cs bu (ei.out.below be);rw[<-d9.out] at cZ;have d2:=R cZ;clear cZ;have fI:ns=sts.length:=I.out.len;subst fI;go_in
 go_wp2_with (first
  | (go_at_call 26;refine aw bI.out fun bu M=> ?_;have bz:=R M;replace a0:=V a0 M;replace ao:=V ao M;replace a2:=V a2 M;replace bh:=V bh M;replace aO:=V aO M;replace bi:=V bi M;clear M bI)
  | (go_at_call 27;refine aw (ck.out _ bz.out) fun fR T=> ?_;have bV:=R (ax bz.out T);replace a0:=V a0 T;replace ao:=V ao T;replace a2:=V a2 T;replace bh:=V bh T;replace aO:=V aO T;replace bi:=V bi T;clear T ck)
  | (go_at_call 28;refine(d2.out _ bV.out).mono ?_;rintro r eN ⟨v,rfl,dQ,cd⟩;obtain⟨gt,dx,fS,fN,_,_,_,_⟩:=dF dQ fB;subst fN;have ec:=R dQ;have eY:=R (dn.out.below (ax bV.out cd));have d4:=R (ax dh.out (ax bV.out cd));replace aO:=V aO cd;replace bi:=V bi cd;clear cd dQ d2 a0 ao a2 bh))
 go_loopw [4,5] (fun c v wr=>∃i:Nat,i<=sts.length/\v= B o i/\c= B o ((cv sts i 0).length:Nat)/\Hid (kR L ms sts i 0)/\Hid (Below eN.heap.size eN wr)) (fun _ v _=>sts.length-(intOf v).toNat)
 case atStart=>exact⟨0,by omega,rfl,by simp[cv],R ⟨eS.start _ _ _,by simp[cv]⟩,R aX⟩
 obtain⟨i,al,rfl,rfl,aB,bD⟩:=hrel;have fV:=aB.out.len;have aI:=d4.out.trans (bD.out.mono d4.out.size);have bN:=V aO bD.out;have bZ:=V bi bD.out;have f5:=I.out.aL;by_cases fZ:i < sts.length
 ·obtain⟨s,br⟩:∃s,sts[i]? =D s:=⟨_,bb (by omega)⟩
  obtain⟨af,ar,bx,aF,hA,eH,fC,z,a4,a5,bv⟩:=I.out.qH br;subst hA;replace z:=V z aI;replace a4:=V a4 aI;replace a5:=V a5 aI;replace bv:=V bv aI;have fY:(i:Int) < (sts.length:Int):=by omega
  have fX:(0:Int)<=(i:Int):=by omega
  obtain⟨ga,f9⟩:=fC;obtain⟨p,dS⟩:∃p:aP,0 < i->sts[i-1]? =D p:=by
   by_cases h0:0 < i
   ·exact⟨_,fun _=>bb (show i-1 < sts.length by omega)⟩
   ·exact⟨s,fun h=>absurd h h0⟩
  have bQ:0 < i->wr.cell? ⟨af,ar+(i-1)*4,F⟩=D (B o p.1.1)/\wr.cell? ⟨af,ar+(i-1)*4+1,F⟩=D (B o p.1.2.1)/\wr.cell? ⟨af,ar+(i-1)*4+2,F⟩=D (B o p.1.2.2):=by
   intro h0;obtain⟨aC,ge,_,_,b8,_,q0,aZ,bm,_⟩:=I.out.at_ (dS h0);injection b8 with b8
   injection b8 with ap ak _
   subst ap ak;exact⟨V q0 aI,V aZ aI,V bm aI⟩
  obtain⟨aE,eh,dq⟩:=cq br eH dS;obtain⟨aJ,rfl⟩:=ai wr;have bl:=aV aJ (Y #[B o s.1.1, B o s.1.2.1, B o s.1.2.2, O bx s.2.length aF] 56);have dW:=aQ aJ (Y #[B o s.1.1, B o s.1.2.1, B o s.1.2.2, O bx s.2.length aF] 56);obtain⟨cw,cn⟩:=aY (aI.trans (bl.mono aI.size)) (bD.out.trans (bl.mono bD.out.size));clear br eH dS aI
  go_wp2_with fail
  obtain⟨aK,aM,z2,aN⟩:=dm dW;have bQ:0 < i->(aJ.alloc (Y #[B o s.1.1, B o s.1.2.1, B o s.1.2.2, O bx s.2.length aF] 56)).cell? ⟨af,ar+(i-1)*4,F⟩=D (B o p.1.1)/\(aJ.alloc (Y #[B o s.1.1, B o s.1.2.1, B o s.1.2.2, O bx s.2.length aF] 56)).cell? ⟨af,ar+(i-1)*4+1,F⟩=D (B o p.1.2.1)/\(aJ.alloc (Y #[B o s.1.1, B o s.1.2.1, B o s.1.2.2, O bx s.2.length aF] 56)).cell? ⟨af,ar+(i-1)*4+2,F⟩=D (B o p.1.2.2):=fun h0=>by
   obtain⟨q0,aZ,bm⟩:=bQ h0;exact⟨V q0 bl,V aZ bl,V bm bl⟩
  replace bN:=V bN bl;replace bZ:=V bZ bl;have cy:=R dW;clear dW z a4 a5 bv bl bD;generalize aJ.alloc (Y #[B o s.1.1, B o s.1.2.1, B o s.1.2.2, O bx s.2.length aF] 56)=w5 at aK aM z2 aN bQ bN bZ cy cw cn |-;have dt:∀W:ac,Calls aj 29 #[bK p.1,bK s.1] W fun e Z=>e= .returned (aa (hI p.1 s.1))/\Below W.heap.size W Z:=fun W=>t6 p.1.1 p.1.2.1 p.1.2.2 s.1.1 s.1.2.1 s.1.2.2 W;obtain⟨bj,dJ⟩:=ai (hI p.1 s.1);rw[<-dJ] at dt;obtain⟨b0,aD⟩:=ai (au ((0:Int) < (i:Int)));obtain⟨y,G⟩:=ai (((s.2.length:Int)==0));have eE:b0=S->w5.cell? ⟨af,ar+(i-1)*4,F⟩=D (B o p.1.1)/\w5.cell? ⟨af,ar+(i-1)*4+1,F⟩=D (B o p.1.2.1)/\w5.cell? ⟨af,ar+(i-1)*4+2,F⟩=D (B o p.1.2.2):=fun h=>bQ (by rw[aD] at h;have:=of_decide_eq_true h;omega)
  have dT:b0=S->b7.wrap ((i:Int)-1)=((i-1:Nat):Int):=fun h=>by rw[aD] at h;have:=of_decide_eq_true h;rw[ca _ (by omega)];omega
  have f1:((i-1:Nat):Int) < (sts.length:Int):=by omega
  have f0:(0:Int)<=((i-1:Nat):Int):=by omega
  obtain⟨ee,ej,cl,bU⟩:=df eE dT (a7 aD (a7 dJ G)) dt;have et:au (0 < i)=b0:=by rw[aD];exact decide_eq_decide.2 (by omega)
  have eg:=R (a7 aD.symm (a7 G.symm et));clear bQ eE dT aD dJ G dt et;obtain⟨fe,cV⟩:∃g:ae,Hid (g=(bif (!y) then B o i else U)):=⟨_,R rfl⟩;obtain⟨ff,cX⟩:∃g:ae,Hid (g=(bif (!y) then aa b0 else U)):=⟨_,R rfl⟩;obtain⟨fg,aA⟩:∃g:ae,Hid (g=(bif (!y) then aa b0 else U)):=⟨_,R rfl⟩;obtain⟨fh,cY⟩:∃g:ae,Hid (g=(bif ((!y) && b0) then ad (D ⟨w.heap.size,5,F⟩) else U)):=⟨_,R rfl⟩;obtain⟨fi,c0⟩:∃g:ae,Hid (g=(bif ((!y) && b0) then O (D ⟨af,ar,F⟩) sts.length cS else U)):=⟨_,R rfl⟩;obtain⟨e3,cJ⟩:∃g:ae,Hid (g=(bif ((!y) && b0) then B o i else U)):=⟨_,R rfl⟩;obtain⟨e4,cK⟩:∃g:ae,Hid (g=(bif ((!y) && b0) then B o ((i-1:Nat):Int) else U)):=⟨_,R rfl⟩
  obtain⟨e5,cL⟩:∃g:ae,Hid (g=(bif ((!y) && b0) then ad (D ⟨af,ar+(i-1)*4,F⟩) else U)):=⟨_,R rfl⟩;obtain⟨e6,cM⟩:∃g:ae,Hid (g=(bif ((!y) && b0) then ad (D ⟨af,ar+(i-1)*4,F⟩) else U)):=⟨_,R rfl⟩;obtain⟨e7,cN⟩:∃g:ae,Hid (g=(bif ((!y) && b0) then bK p.1 else U)):=⟨_,R rfl⟩;obtain⟨e8,cO⟩:∃g:ae,Hid (g=(bif ((!y) && b0) then ad (D ⟨aJ.heap.size,0,F⟩) else U)):=⟨_,R rfl⟩;obtain⟨e9,cP⟩:∃g:ae,Hid (g=(bif ((!y) && b0) then bK s.1 else U)):=⟨_,R rfl⟩;obtain⟨fa,cQ⟩:∃g:ae,Hid (g=(bif ((!y) && b0) then aa bj else U)):=⟨_,R rfl⟩;obtain⟨fb,cR⟩:∃g:ae,Hid (g=(bif ((!y) && b0) then aa (!bj) else U)):=⟨_,R rfl⟩
  obtain⟨fc,cT⟩:∃g:ae,Hid (g=(bif (!y) then aa (b0 && (!bj)) else U)):=⟨_,R rfl⟩;obtain⟨fd,cU⟩:∃g:ae,Hid (g= aa (y || (b0 && (!bj)))):=⟨_,R rfl⟩;refine bW (fin:= ?z2) [ad (D ⟨aJ.heap.size,3,F⟩),(O bx s.2.length aF), B o (s.2.length:Int), aa y, aa y,fe,ff,fg,fh,fi,e3,e4,e5,e6,e7,e8,e9,fa,fb,fc,fd] ?hf bp (by kernel_rfl) rfl fun bg hst=> ?_;case hf=>simp only[aT,a6,bd,ba,bc];exact rfl
  have N:=R hst;have G:=hst;obtain⟨aK,aM,z2,aN,bZ⟩:=mc G aK aM z2 aN bZ;constructor
  ·obtain⟨b4,b6,fT⟩:=eg.out
   have bQ:b0=S->bg.cell? ⟨af,ar+(i-1)*4,F⟩=D (B o p.1.1)/\bg.cell? ⟨af,ar+(i-1)*4+1,F⟩=D (B o p.1.2.1)/\bg.cell? ⟨af,ar+(i-1)*4+2,F⟩=D (B o p.1.2.2):=fun h0=>by
    obtain⟨a1,c1,c2⟩:=ee.out h0;exact⟨V a1 G,V c1 G,V c2 G⟩
   have dT:=ej.out;iterate 21 refine⟨?_,fun K k=> ?_⟩
   ·trivial
   ·obtain rfl:=cU.out
    obtain rfl:=cT.out;generalize (b0 && (!bj))=a4 at k |-;cases y <;> cases a4 <;> (go_simp;exact k _ N.out)
   ·obtain rfl:=cT.out
    obtain rfl:=aA.out;obtain rfl:=cR.out;generalize (!bj)=a5 at k |-;cases y <;> cases b0 <;> cases a5 <;> (go_simp;exact k _ N.out)
   ·obtain rfl:=cR.out
    obtain rfl:=aA.out;obtain rfl:=cQ.out;generalize (!y)=z at k |-;cases z <;> cases b0 <;> cases bj <;> (go_simp;exact k _ N.out)
   ·obtain rfl:=cQ.out
    obtain rfl:=aA.out;obtain rfl:=cN.out;obtain rfl:=cP.out;generalize (!y)=z at k |-;cases z <;> cases b0 <;> first | (go_simp;exact k _ N.out;done) | (go_simp;exact aw (bU.out _) fun wc ce=>k _ (ax G ce))
   ·obtain rfl:=cP.out
    obtain rfl:=aA.out;obtain rfl:=cO.out;generalize (!y)=z at k |-;cases z <;> cases b0 <;> (go_simp;exact k _ N.out)
   ·obtain rfl:=cO.out
    obtain rfl:=aA.out;generalize (!y)=z at k |-;cases z <;> cases b0 <;> (go_simp;exact k _ N.out)
   ·obtain rfl:=cN.out
    obtain rfl:=aA.out;obtain rfl:=cM.out;generalize (!y)=z at k |-;cases z <;> cases b0 <;> (go_simp;exact k _ N.out)
   ·obtain rfl:=cM.out
    obtain rfl:=aA.out;obtain rfl:=cL.out;generalize (!y)=z at k |-;cases z <;> cases b0 <;> (go_simp;exact k _ N.out)
   ·obtain rfl:=cL.out
    obtain rfl:=aA.out;obtain rfl:=c0.out;obtain rfl:=cK.out;generalize (!y)=z at k |-;cases z <;> cases b0 <;> (go_simp;exact k _ N.out)
   ·obtain rfl:=cK.out
    obtain rfl:=aA.out;obtain rfl:=cJ.out;generalize (!y)=z at k |-;cases z <;> cases b0 <;> (go_simp;exact k _ N.out)
   ·obtain rfl:=cJ.out
    obtain rfl:=aA.out;generalize (!y)=z at k |-;cases z <;> cases b0 <;> (go_simp;exact k _ N.out)
   ·obtain rfl:=c0.out
    obtain rfl:=aA.out;obtain rfl:=cY.out;generalize (!y)=z at k |-;cases z <;> cases b0 <;> (go_simp;exact k _ N.out)
   ·obtain rfl:=cY.out
    obtain rfl:=aA.out;generalize (!y)=z at k |-;cases z <;> cases b0 <;> (go_simp;exact k _ N.out)
   ·obtain rfl:=aA.out
    obtain rfl:=cX.out;cases y <;> cases b0 <;> (go_simp;exact k _ N.out)
   ·obtain rfl:=cX.out
    obtain rfl:=cV.out;cases y <;> (go_simp;exact k _ N.out)
   ·obtain rfl:=cV.out
    cases y <;> (go_simp;exact k _ N.out)
   ·cases y <;> (go_simp;exact k _ N.out)
   iterate 4 (go_simp;exact k _ N.out)
  obtain rfl:=cU.out;clear cV cX aA cY c0 cJ cK cL cM cN cO cP cQ cR cT cU
  -- (bl || (b0 && (!bz)))
  obtain⟨d8,dj,co⟩:=cq (aG cy.out G (am cy.out)) (cw.out.trans (G.mono cw.out.size)) (cn.out.trans (G.mono cn.out.size));replace bN:=V bN G;obtain⟨eO,rfl⟩:=ai bg;clear G cy cw cn
  cases hc:(y || (b0 && (!bj))) with
  | true=>
   have bH:¬eo L ms sts:=by
    intro em;obtain⟨b4,b6,cC⟩:=cl.out;rcases(Bool.or_eq_true _ _).mp hc with h1 | h1
    ·rw[cC] at h1
     have ab:(s.2.length:Int)=0:=by simpa using h1
     exact em.ne i s aE.out (List.length_eq_zero_iff.1 (by omega))
    obtain⟨ab,ag⟩:=(cu _ _).mp h1;rw[b4] at ab;have ab:=of_decide_eq_true ab;have az:=em.lt (i-1) p s (dq.out (by omega)) (by rw[show i-1+1=i by omega];exact aE.out);rw[b6,po az] at ag;cases ag
   have a8:=R (bL.out (fun h=>bH (bM.out.1 h).2));clear bH hc;go_wp2;go_ret;exact⟨cW a8.out.symm,dj.out⟩
  | false=>
   obtain⟨dK,dL⟩:=Bool.or_eq_false_iff.mp hc;have dN:∀(j:Nat) (a:aP),j+1=i->sts[j]? =D a->c3 a.1 s.1:=by
    intro j a aW aU;obtain⟨b4,b6,cC⟩:=cl.out;have h1:=dq.out (by omega);rw[show i-1=j by omega,aU] at h1;cases h1
    have ab:b0=S:=by rw[b4];exact decide_eq_true (by omega)
    rw[ab,Bool.true_and,b6] at dL;refine od.1 ?_;simpa using dL
   have ci:s.2≠ []:=by
    intro e;obtain⟨b4,b6,cC⟩:=cl.out;rw[cC,e] at dK;simp at dK
   have er:∀(j:Nat) (a:aP),j < i->sts[j]? =D a->c3 a.1 s.1:=fun j a aW aU=>aB.out.inv.apart (fun dV eM dX h1 ab ag=>by
    by_cases e:dV+1=i
    ·have:dX=s:=by rw[e,aE.out] at ag;exact(Option.some.inj ag).symm
     subst this;exact dN dV eM e ab
    ·exact aB.out.inv.lt dV eM dX (.inl (by omega)) ab ag) aW aU aE.out
   have fH:0 < s.2.length:=List.length_pos_iff.2 ci;have es:∀(j:Nat) (a:aP),j < i->sts[j]? =D a->a.1≠s.1:=fun j a aW aU e=>gg s.1 (by have:=er j a aW aU;rwa [e] at this);obtain⟨eW,eX,eU⟩:=cq dN ci es;clear hc dK dL dN ci er es cl dq ej ee eg bU
   go_wp2_with fail
   go_loopw [4,7] (fun c v wr=>∃q:Nat,q<=s.2.length/\v= B o q/\c= B o ((cv sts i q).length:Nat)/\Hid (kR L ms sts i q)/\Hid (Below eO.heap.size eO wr)) (fun _ v _=>s.2.length-(intOf v).toNat)
   case atStart=>exact⟨0,by omega,rfl,rfl,aB,R aX⟩
   clear aB aK aM z2 aN;obtain⟨q,eG,rfl,rfl,aB,bq⟩:=hrel;have fW:=aB.out.len;have ex:=aG d8.out bq.out (am d8.out);obtain⟨aK,aM,z2,aN⟩:=dm ex;clear ex;by_cases fL:q < s.2.length
   ·obtain⟨t,ht⟩:∃t,s.2[q]? =D t:=⟨_,bb fL⟩
    obtain⟨b3,cj,b8,bR,bS,bT⟩:=eh.out.pZ ht rfl;subst b8;have cg:=dj.out.trans (bq.out.mono dj.out.size);have dH:=co.out.trans (bq.out.mono co.out.size);replace bR:=V bR cg;replace bS:=V bS cg;replace bT:=V bT cg;have cG:=V bN bq.out;have f8:(q:Int) < (s.2.length:Int):=by omega
    have f6:(0:Int)<=(q:Int):=by omega
    have dp:=ot _ (D ⟨gt,0,F⟩) dx L t wr (bo ec.out dH) fF;obtain⟨ek,dB⟩:=ai (dU L t);rw[<-dB] at dp;obtain⟨ef,d1,cA,dk,di⟩:=dY dB dp ht cg dH;clear dp dB ht cg dH;obtain⟨gf,rfl⟩:=ai wr
    go_wp2_with (go_at_call 30;refine aw d1.out fun eP aH=> ?_;have bJ:=R (dk.out.trans (aH.mono dk.out.size));have bB:=R (di.out.trans (aH.mono di.out.size));have d5:=R (bq.out.trans (aH.mono bq.out.size));replace bR:=V bR aH;replace bS:=V bS aH;replace bT:=V bT aH;replace aK:=V aK aH;replace aM:=V aM aH;replace z2:=V z2 aH;replace aN:=V aN aH;replace cG:=V cG aH;clear d1 aH dk di)
    by_cases bs:t ∈ L
    rotate_left
    ·have dR:ek= -1:=by rw[ef.out];unfold dU;rw[if_neg bs]
     subst dR;have fD:(au ((-1:Int) < 0))=S:=by decide
     have a8:=R (bL.out (fun h=>bs ((bM.out.1 h).2.ay i s q t aE.out cA.out).1));refine bW (fin:= ?z4) [B o (-1), aa S, aa S,U,U,U,U,U,U,U,U,U,U,U,U,U, aa S, aa S,U,U,U,U,U,U,U,U,U,U,U, aa S] ?hf bp (by kernel_rfl) rfl fun bg G=> ?_;case hf=>simp only[aT,a6,bd,ba,bc];exact rfl
     have I:=R G;obtain⟨aK,aM,z2,aN⟩:=fQ G aK aM z2 aN;constructor
     ·iterate 30 refine⟨?_,fun K k=> ?_⟩
      ·trivial
      iterate 30 (go_simp;exact k _ I.out)
     have bX:=R (bJ.out.trans (G.mono bJ.out.size));clear G;go_wp2;go_ret;exact⟨cW a8.out.symm,bX.out⟩
    obtain⟨an,ch⟩:=ai (L.idxOf t);have ew:an < L.length:=by rw[ch];exact gK bs
    have dR:ek=(an:Int):=by rw[ef.out,ch];unfold dU;rw[if_pos bs]
    subst dR;have dw:L[an]? =D t:=by rw[ch,bb (gK bs)];exact congrArg D (List.getElem_idxOf _)
    have bE:=eV.out t bs;obtain⟨el,eL,m,fA,ez,fU,z,a4,a5,bv,cH,cI⟩:=Rd.mp (by rw[eB];exact eY.out) (show an < ms.length by rw[eB];exact ew);subst fA;replace z:=V z bB.out;replace a4:=V a4 bB.out;replace a5:=V a5 bB.out;replace bv:=V bv bB.out;replace cH:=V cH bB.out;replace cI:=V cI bB.out;obtain⟨v0,v1,v2⟩:=ey (bo ec.out bB.out) dw;have dO:ms.getD an zeroV=m:=by rw[cf,ez];rfl
    have bP:=(eb.out.may an ew).1;rw[dO] at bP;have bC:=fun(W:ac)=>m3 m.1 m.2.1 m.2.2.1 m.2.2.2.1 m.2.2.2.2.1 m.2.2.2.2.2 t.1 t.2.1 t.2.2 W (gA (hJ bP) (by omega)) (g0 bP).1 (g0 bP).2.1 (g0 bP).2.2 (by have:=bE.1;omega) (by have:=bE.1;omega) (by have:=bE.2.1;omega) (by have:=bE.2.1;omega) bE.2.2.1 bE.2.2.2;have a9:bA L ms an=dD m t:=by unfold bA;rw[dO,cf,dw];rfl
    obtain⟨bf,dE⟩:=ai (dD m t);rw[show h8 m.1 m.2.1 m.2.2.1 m.2.2.2.1 m.2.2.2.2.1 m.2.2.2.2.2 t.1 t.2.1 t.2.2=bf from dE.symm] at bC;rw[<-dE] at a9;have fK:∀w,(binOp .neq 53 (bK bf) (bK s.1)).run aj w= .ok (aa (!au (bf=s.1))) w:=fun w=>by rw[<-jE];exact jJ bf.1 bf.2.1 bf.2.2 s.1.1 s.1.2.1 s.1.2.2 w
    obtain⟨E,dI⟩:=ai ((!au (bf=s.1)));rw[<-dI] at fK;have dM:(s.2.take q).length=q:=by simp;omega
    have cB:=fun(W:ac) (be:Below eP.heap.size eP W)=>rI (D ⟨b3,cj,F⟩) aF (s.2.take q) t W (by rw[dM];exact(eh.out.below (bJ.out.trans (be.mono bJ.out.size))).CY eG) (by omega);rw[dM] at cB;obtain⟨bt,dA⟩:=ai (dU (s.2.take q) t);rw[<-dA] at cB;obtain⟨aC,T⟩:=ai (au ((0:Int)<=bt));have eC:aC=S↔t ∈ s.2.take q:=by
     rw[T,dA];unfold dU;by_cases a3:t ∈ s.2.take q
     ·rw[if_pos a3];simp[a3]
     ·rw[if_neg a3];simp[a3]
    have fD:(au ((an:Int) < 0))=Q:=decide_eq_false (by omega);have f7:q<=aF:=by omega
    have f4:(an:Int) < (L.length:Int):=by omega
    have f2:(0:Int)<=(an:Int):=by omega
    obtain⟨eQ,eT,d3,d6,ed,eZ,d7,e0⟩:=l1 bC cB a9 dI eC T.symm ch bs;clear bC cB a9 dI eC T dA ch bs dw bE ez dO bP dE dM;obtain⟨fj,c4⟩:∃g:ae,Hid (g=(bif (!E) then ad (D ⟨aJ.heap.size,3,F⟩) else U)):=⟨_,R rfl⟩;obtain⟨fk,c5⟩:∃g:ae,Hid (g=(bif (!E) then(O (D ⟨b3,cj,F⟩) s.2.length aF) else U)):=⟨_,R rfl⟩;obtain⟨fl,c6⟩:∃g:ae,Hid (g=(bif (!E) then B o (q:Int) else U)):=⟨_,R rfl⟩;obtain⟨fm,c7⟩:∃g:ae,Hid (g=(bif (!E) then O (D ⟨b3,cj,F⟩) q aF else U)):=⟨_,R rfl⟩;obtain⟨fo,c8⟩:∃g:ae,Hid (g=(bif (!E) then ad (D ⟨aJ.heap.size,3,F⟩) else U)):=⟨_,R rfl⟩;obtain⟨fq,c9⟩:∃g:ae,Hid (g=(bif (!E) then(O (D ⟨b3,cj,F⟩) s.2.length aF) else U)):=⟨_,R rfl⟩
    obtain⟨fs,da⟩:∃g:ae,Hid (g=(bif (!E) then B o (q:Int) else U)):=⟨_,R rfl⟩;obtain⟨ft,db⟩:∃g:ae,Hid (g=(bif (!E) then ad (D ⟨b3,cj+q*3,F⟩) else U)):=⟨_,R rfl⟩;obtain⟨fv,dc⟩:∃g:ae,Hid (g=(bif (!E) then bK t else U)):=⟨_,R rfl⟩;obtain⟨fw,dd⟩:∃g:ae,Hid (g=(bif (!E) then B o bt else U)):=⟨_,R rfl⟩;obtain⟨fx,de⟩:∃g:ae,Hid (g=(bif (!E) then aa aC else U)):=⟨_,R rfl⟩;obtain⟨fy,dg⟩:∃g:ae,Hid (g= aa (E || aC)):=⟨_,R rfl⟩;refine bW (fin:= ?z6) [B o (an:Int), aa Q, aa Q, ad (D ⟨w.heap.size,4,F⟩), O (D ⟨el,eL,F⟩) L.length cp, B o (an:Int), ad (D ⟨el,eL+an*6,F⟩),b2 m, O (D ⟨gt,0,F⟩) L.length dx, B o (an:Int), ad (D ⟨gt,an*3,F⟩),bK t,bK bf, ad (D ⟨aJ.heap.size,0,F⟩),bK s.1, aa E, aa E, aa E,fj,fk,fl,fm,fo,fq,fs,ft,fv,fw,fx,fy] ?hf bp (by kernel_rfl) rfl fun bg G=> ?_
    case hf=>simp only[aT,a6,bd,ba,bc];exact rfl
    have I:=R G;obtain⟨aK,aM,z2,aN,cG,z,a4,a5,bv,cH,cI,v0,v1,v2,bR,bS,bT⟩:=rQ G aK aM z2 aN cG z a4 a5 bv cH cI v0 v1 v2 bR bS bT;constructor
    ·have T:=eZ.out
     iterate 30 refine⟨?_,fun K k=> ?_⟩
     ·trivial
     ·obtain rfl:=dg.out
      obtain rfl:=de.out;cases E <;> cases aC <;> (go_simp;exact k _ I.out)
     ·obtain rfl:=de.out
      obtain rfl:=dd.out;cases E <;> (go_simp;exact k _ I.out)
     ·obtain rfl:=dd.out
      obtain rfl:=c7.out;obtain rfl:=dc.out;cases E <;> first | (go_simp;exact k _ I.out;done) | (go_simp;exact aw (eT.out bg G) fun wc ce=>k _ (ax G ce))
     ·obtain rfl:=dc.out
      obtain rfl:=db.out;cases E <;> (go_simp;exact k _ I.out)
     ·obtain rfl:=db.out
      obtain rfl:=c9.out;obtain rfl:=da.out;cases E <;> (go_simp;exact k _ I.out)
     ·obtain rfl:=da.out
      cases E <;> (go_simp;exact k _ I.out)
     ·obtain rfl:=c9.out
      obtain rfl:=c8.out;cases E <;> (go_simp;exact k _ I.out)
     ·obtain rfl:=c8.out
      cases E <;> (go_simp;exact k _ I.out)
     ·obtain rfl:=c7.out
      obtain rfl:=c5.out;obtain rfl:=c6.out;cases E <;> (go_simp;exact k _ I.out)
     ·obtain rfl:=c6.out
      cases E <;> (go_simp;exact k _ I.out)
     ·obtain rfl:=c5.out
      obtain rfl:=c4.out;cases E <;> (go_simp;exact k _ I.out)
     ·obtain rfl:=c4.out
      cases E <;> (go_simp;exact k _ I.out)
     iterate 2 (cases E <;> (go_simp;exact k _ I.out))
     iterate 3 (go_simp;exact k _ I.out)
     ·go_simp;exact aw (eQ.out bg) fun wc ce=>k _ (ax G ce)
     iterate 12 (go_simp;exact k _ I.out)
    obtain rfl:=dg.out;clear c4 c5 c6 c7 c8 c9 da db dc dd de dg
    -- (bu || b2)
    obtain⟨bX,bY⟩:=aY (bJ.out.trans (G.mono bJ.out.size)) (d5.out.trans (G.mono d5.out.size));clear G
    cases hc:(E || aC) with
    | true=>
     have a8:=R (bL.out (fun h=>by
      obtain⟨cz,b9,dZ⟩:=(bM.out.1 h).2.ay i s q t aE.out cA.out;rw[<-d7.out,d3.out] at b9;rcases(Bool.or_eq_true _ _).mp hc with h1 | h1
      ·rw[d6.out,b9] at h1
       simp at h1
      ·exact dZ (ed.out.1 h1)))
     clear hc;go_wp2;go_ret;exact⟨cW a8.out.symm,bX.out⟩
    | false=>
     obtain⟨h1,ab⟩:=Bool.or_eq_false_iff.mp hc;have a9:bA L ms (L.idxOf t)=s.1:=by
      rw[<-d7.out,d3.out];rw[d6.out] at h1;simpa using h1
     have bH:t ∉ s.2.take q:=fun h=>by have:=ed.out.2 h;rw[ab] at this;cases this
     have dC:=R (aB.out.step aE.out cA.out eX.out eW.out e0.out (aB.out.inv.Bk aE.out a9 bH eU.out) a9);have cE:((cv sts i (q+1)).length:Int)=((cv sts i q).length:Int)+1:=by rw[lV aE.out cA.out];simp
     have fO:b7.wrap (((cv sts i q).length:Int)+1)=((cv sts i (q+1)).length:Int):=by rw[cE];exact ca _ (by omega)
     have gd:b7.wrap ((q:Int)+1)=((q+1:Nat):Int):=by rw[ca _ (by omega)];omega
     clear hc h1 ab a9 bH cE;go_wp2;go_roundw
     case rel=>exact⟨q+1,by omega,by first | rfl | go_num,by first | rfl | exact congrArg _ fO,dC,bY⟩
     case measure=>simp[intOf];omega
   obtain rfl:q=s.2.length:=by omega
   have cE:((cv sts (i+1) 0).length:Int)=((cv sts i s.2.length).length:Int):=by rw[o5 aE.out]
   obtain⟨dC,bY⟩:=aY (show kR L ms sts (i+1) 0 from⟨aB.out.inv.next aE.out fH,by rw[<-o5 aE.out];exact aB.out.eR⟩) (co.out.trans (bq.out.mono co.out.size));have gb:b7.wrap ((i:Int)+1)=((i+1:Nat):Int):=by rw[ca _ (by omega)];omega
   clear aB bq;go_wp2;go_roundw
   case rel=>exact⟨i+1,by omega,by first | rfl | go_num,by rw[cE],dC,bY⟩
   case measure=>simp[intOf];omega
 obtain rfl:i=sts.length:=by omega
 obtain⟨bU,du⟩:∃c:Int,c=((cv sts sts.length 0).length:Int):=⟨_,rfl⟩;rw[<-du];have eu:(bU==(L.length:Int))=dr:=by
  cases dG:(bU==(L.length:Int)) with
  | true=>
   have ab:(cv sts sts.length 0).length=L.length:=by have:=eq_of_beq dG;omega
   rw[n3,DH] at ab;exact(e1.out (bM.out.2 ⟨eb.out,aB.out.inv.done ab⟩)).symm
  | false=>
   refine(bL.out fun h=> ?_).symm;have ab:=(bM.out.1 h).2.many;rw[<-DH (l:=sts),<-n3] at ab;rw[du,ab] at dG;simp at dG
 obtain⟨bY,bX⟩:=aY eu aI;clear aB eu du aI bD;go_wp2;go_ret;exact⟨cW bY.out,bX.out⟩
end
section
open Go.RowKit Go.Maps
theorem CH(W H:Int)(Am Ac Ap As:Option Addr)(nm cm nc cc np cp ns cS:Nat)(mask:List Int)(cs:List bw)(ms:List aR)(sts:List aP)(w:ac)(bX:Rd w 1 Am nm (bF mask))(hc:Rd w 5 Ac nc (cr cs))(bY:Rd w 6 Ap np (b5 ms))(hst:en w As ns sts)
  (hnm:nm*8<=140737488351232) (hnc:nc*40<=140737488351232) (hnp:np*48<=140737488351232) (hAm:Am=F->cm=0) (hAc:Ac=F->cc=0) (hAp:Ap=F->cp=0) (hts:∀s ∈ sts,s.2.length*24<=140737488351232) (hns:ns*48<=140737488351232):
  Calls aj 5 #[aq #[B o W, B o H, O Am nm cm, O Ac nc cc, O Ap np cp, O As ns cS]] w fun e Z=>∃r bK l bJ I ck bB cj,e= .returned (aq #[B o W, B o H, O r nm bK, O l nc bJ, O I np ck, O bB ns cj])/\Rd Z 1 r nm (bF mask)/\Rd Z 5 l nc (cr cs)/\Rd Z 6 I np (b5 ms)/\en Z bB ns sts/\((r=F->bK=0)/\(l=F->bJ=0))/\Below w.heap.size w Z:=by
 obtain⟨bl,bH⟩:=aY hst.len hts;have b6:=aQ w (Y #[B o W, B o H, O Am nm cm, O Ac nc cc, O Ap np cp, O As ns cS] 29);have bP:=aV w (Y #[B o W, B o H, O Am nm cm, O Ac nc cc, O Ap np cp, O As ns cS] 29);have bI:=fun(W':ac) (bO:Below w.heap.size w W')=>vA W H Am Ac nm cm nc cc mask cs W' (bX.below bO) (hc.below bO) hnm hnc hAm hAc;obtain⟨bC,bE,av⟩:=cq bI bY hst;clear bI bX hc bY hst hts;go_in
 go_wp2_with fail
 have bQ:=bP.alloc (by simp) (Y #[B o 0, B o 0, O F 0 0, O F 0 0, O F 0 0, O F 0 0] 29);have aM:=aQ (w.alloc (Y #[B o W, B o H, O Am nm cm, O Ac nc cc, O Ap np cp, O As ns cS] 29)) (Y #[B o 0, B o 0, O F 0 0, O F 0 0, O F 0 0, O F 0 0] 29);have b8:=aW b6 (Y #[B o 0, B o 0, O F 0 0, O F 0 0, O F 0 0, O F 0 0] 29);obtain⟨a0,ao,a2,ah,ai,M⟩:=cx b8;rw[World.size_alloc] at aM;obtain⟨bm,aE⟩:=aY aM bQ;clear b6 bP aM b8;generalize (w.alloc (Y #[B o W, B o H, O Am nm cm, O Ac nc cc, O Ap np cp, O As ns cS] 29)).alloc (Y #[B o 0, B o 0, O F 0 0, O F 0 0, O F 0 0, O F 0 0] 29)=w1 at a0 ao a2 ah ai M bm aE bQ |-
 refine rO (fin:= ?z1) [2,5,6,8] 7 [[S,S,Q,S,S,Q,Q,Q,Q], [Q,Q,Q,S,S,Q,Q,Q,Q], [S,S,Q,Q,Q,Q,Q,Q,Q], [Q,Q,Q,Q,Q,Q,Q,Q,Q], [Q,Q,Q,Q,Q,Q,Q,Q,Q]] [[S,S,Q,S,S,Q,Q,Q,Q], [Q,Q,Q,S,S,Q,Q,Q,Q], [S,S,Q,Q,Q,Q,Q,Q,Q], [Q,Q,Q,Q,Q,Q,Q,Q,Q], [Q,Q,Q,Q,Q,Q,Q,Q,Q]] [[1,0], [4,3], [2,5,1,4,0,3], [7,6,2,5,1,4,0,3]] [] (fun x=> [ad (D ⟨w.heap.size,0,F⟩), aq #[B o W, B o H, O Am nm cm, O Ac nc cc],(x 0), ad (D ⟨w.heap.size,4,F⟩), O Ap np cp,(x 1),(x 2),(x 4),(x 3)]) (fun E ci x a=>match E,ci with | 0,Q=>a.cell? ⟨w.heap.size,0,F⟩=D (B o W)/\a.cell? ⟨w.heap.size,1,F⟩=D (B o H)/\a.cell? ⟨w.heap.size,2,F⟩=D (O Am nm cm)/\a.cell? ⟨w.heap.size,3,F⟩=D (O Ac nc cc)/\a.cell? ⟨w.heap.size,4,F⟩=D (O Ap np cp)/\a.cell? ⟨w.heap.size,5,F⟩=D (O As ns cS)/\Below w1.heap.size w1 a | 0,S=>a.cell? ⟨w.heap.size,0,F⟩=D (B o W)/\a.cell? ⟨w.heap.size,1,F⟩=D (B o H)/\a.cell? ⟨w.heap.size,2,F⟩=D (O Am nm cm)/\a.cell? ⟨w.heap.size,3,F⟩=D (O Ac nc cc)/\a.cell? ⟨w.heap.size,4,F⟩=D (O Ap np cp)/\a.cell? ⟨w.heap.size,5,F⟩=D (O As ns cS)/\Below w1.heap.size w1 a/\(∃g,Hid (x 4= ad (D ⟨g,0,F⟩))/\a.heap[g]? =D (Y #[B o 0, B o 0, O F 0 0, O F 0 0, O F 0 0, O F 0 0] 29 (0,0))/\Hid (w1.heap.size<=g)) | 1,Q=>a.cell? ⟨w.heap.size,0,F⟩=D (B o W)/\a.cell? ⟨w.heap.size,1,F⟩=D (B o H)/\a.cell? ⟨w.heap.size,2,F⟩=D (O Am nm cm)/\a.cell? ⟨w.heap.size,3,F⟩=D (O Ac nc cc)/\a.cell? ⟨w.heap.size,4,F⟩=D (O Ap np cp)/\a.cell? ⟨w.heap.size,5,F⟩=D (O As ns cS)/\Below w1.heap.size w1 a/\∃r z l y,Hid (x 0= aq #[B o W, B o H, O r nm z, O l nc y])/\Hid (a.ownsRow w.heap.size 3 1 (O r nm z) nm (bF mask)/\a.ownsRow w.heap.size 129 5 (O l nc y) nc (cr cs)) | 1,S=>a.cell? ⟨w.heap.size,0,F⟩=D (B o W)/\a.cell? ⟨w.heap.size,1,F⟩=D (B o H)/\a.cell? ⟨w.heap.size,2,F⟩=D (O Am nm cm)/\a.cell? ⟨w.heap.size,3,F⟩=D (O Ac nc cc)/\a.cell? ⟨w.heap.size,4,F⟩=D (O Ap np cp)/\a.cell? ⟨w.heap.size,5,F⟩=D (O As ns cS)/\Below w1.heap.size w1 a/\(∃g,Hid (x 4= ad (D ⟨g,0,F⟩))/\a.heap[g]? =D (Y #[B o 0, B o 0, O F 0 0, O F 0 0, O F 0 0, O F 0 0] 29 (0,0))/\Hid (w1.heap.size<=g))/\∃r z l y,Hid (x 0= aq #[B o W, B o H, O r nm z, O l nc y])/\Hid (a.ownsRow w.heap.size 3 1 (O r nm z) nm (bF mask)/\a.ownsRow w.heap.size 129 5 (O l nc y) nc (cr cs)) | 2,Q=>a.cell? ⟨w.heap.size,0,F⟩=D (B o W)/\a.cell? ⟨w.heap.size,1,F⟩=D (B o H)/\a.cell? ⟨w.heap.size,2,F⟩=D (O Am nm cm)/\a.cell? ⟨w.heap.size,3,F⟩=D (O Ac nc cc)/\a.cell? ⟨w.heap.size,4,F⟩=D (O Ap np cp)/\a.cell? ⟨w.heap.size,5,F⟩=D (O As ns cS)/\Below w1.heap.size w1 a/\∃r z l y,Hid (x 0= aq #[B o W, B o H, O r nm z, O l nc y])/\Hid (a.ownsRow w.heap.size 3 1 (O r nm z) nm (bF mask)/\a.ownsRow w.heap.size 129 5 (O l nc y) nc (cr cs))/\∃I J,Hid (x 1= O I np J)/\Hid (a.ownsRow w.heap.size 64 6 (O I np J) np (b5 ms)) | 2,S=>a.cell? ⟨w.heap.size,0,F⟩=D (B o W)/\a.cell? ⟨w.heap.size,1,F⟩=D (B o H)/\a.cell? ⟨w.heap.size,2,F⟩=D (O Am nm cm)/\a.cell? ⟨w.heap.size,3,F⟩=D (O Ac nc cc)/\a.cell? ⟨w.heap.size,4,F⟩=D (O Ap np cp)/\a.cell? ⟨w.heap.size,5,F⟩=D (O As ns cS)/\Below w1.heap.size w1 a/\(∃g,Hid (x 4= ad (D ⟨g,0,F⟩))/\a.heap[g]? =D (Y #[B o 0, B o 0, O F 0 0, O F 0 0, O F 0 0, O F 0 0] 29 (0,0))/\Hid (w1.heap.size<=g))/\∃r z l y,Hid (x 0= aq #[B o W, B o H, O r nm z, O l nc y])/\Hid (a.ownsRow w.heap.size 3 1 (O r nm z) nm (bF mask)/\a.ownsRow w.heap.size 129 5 (O l nc y) nc (cr cs))/\∃I J,Hid (x 1= O I np J)/\Hid (a.ownsRow w.heap.size 64 6 (O I np J) np (b5 ms)) | 3,Q=>a.cell? ⟨w.heap.size,0,F⟩=D (B o W)/\a.cell? ⟨w.heap.size,1,F⟩=D (B o H)/\a.cell? ⟨w.heap.size,2,F⟩=D (O Am nm cm)/\a.cell? ⟨w.heap.size,3,F⟩=D (O Ac nc cc)/\a.cell? ⟨w.heap.size,4,F⟩=D (O Ap np cp)/\a.cell? ⟨w.heap.size,5,F⟩=D (O As ns cS)/\Below w1.heap.size w1 a/\∃r z l y,Hid (x 0= aq #[B o W, B o H, O r nm z, O l nc y])/\Hid (a.ownsRow w.heap.size 3 1 (O r nm z) nm (bF mask)/\a.ownsRow w.heap.size 129 5 (O l nc y) nc (cr cs))/\∃I J,Hid (x 1= O I np J)/\Hid (a.ownsRow w.heap.size 64 6 (O I np J) np (b5 ms))/\Hid (x 2= aq #[B o W, B o H, O r nm z, O l nc y, O I np J, O F 0 0]) | 3,S=>a.cell? ⟨w.heap.size,0,F⟩=D (B o W)/\a.cell? ⟨w.heap.size,1,F⟩=D (B o H)/\a.cell? ⟨w.heap.size,2,F⟩=D (O Am nm cm)/\a.cell? ⟨w.heap.size,3,F⟩=D (O Ac nc cc)/\a.cell? ⟨w.heap.size,4,F⟩=D (O Ap np cp)/\a.cell? ⟨w.heap.size,5,F⟩=D (O As ns cS)/\Below w1.heap.size w1 a/\(∃g,Hid (x 4= ad (D ⟨g,0,F⟩))/\a.heap[g]? =D (Y #[B o 0, B o 0, O F 0 0, O F 0 0, O F 0 0, O F 0 0] 29 (0,0))/\Hid (w1.heap.size<=g))/\∃r z l y,Hid (x 0= aq #[B o W, B o H, O r nm z, O l nc y])/\Hid (a.ownsRow w.heap.size 3 1 (O r nm z) nm (bF mask)/\a.ownsRow w.heap.size 129 5 (O l nc y) nc (cr cs))/\∃I J,Hid (x 1= O I np J)/\Hid (a.ownsRow w.heap.size 64 6 (O I np J) np (b5 ms))/\Hid (x 2= aq #[B o W, B o H, O r nm z, O l nc y, O I np J, O F 0 0]) | _,Q=>False | _,S=>Below w1.heap.size w1 a/\∃g r z l y I J,Hid (x 4= ad (D ⟨g,0,F⟩))/\a.heap[g]? =D (Y #[B o W, B o H, O r nm z, O l nc y, O I np J, O F 0 0] 29 (0,0))/\Hid (w1.heap.size<=g)/\Hid (x 0= aq #[B o W, B o H, O r nm z, O l nc y])/\Hid (x 1= O I np J)/\Hid (x 2= aq #[B o W, B o H, O r nm z, O l nc y, O I np J, O F 0 0])/\Hid (a.ownsRow w.heap.size 3 1 (O r nm z) nm (bF mask)/\a.ownsRow w.heap.size 129 5 (O l nc y) nc (cr cs)/\a.ownsRow w.heap.size 64 6 (O I np J) np (b5 ms))) ?hf (by kernel_rfl) (by kernel_rfl) (fun _=>rfl) (by kernel_rfl) ?hv ?hvf ⟨a0,ao,a2,ah,ai,M,aX.drew⟩ ?hA ?bi ?hF (fun x a hst=> ?_)
 case hf=>intro x;simp only[aT,a6,bd,ba,bc];exact rfl
 case hv=>
  intro x E t v h
  cases E with
  | zero=>cases h;rfl
  | succ E=>
   cases E with
   | zero=>cases h;rfl
   | succ E=>
    cases E with
    | zero=>cases h;rfl
    | succ E=>
     cases E with
     | zero=>cases h;rfl
     | succ E=>
      simp at h
 case hvf=>intro x v;rfl
 case hA=>
  intro E b x a a5 hst;have a5:E<=4:=a5;rcases(show E=0∨E=1∨E=2∨E=3∨E=4 by omega) with rfl | rfl | rfl | rfl | rfl <;> cases b
  ·have av:=R hst
   obtain⟨a0,ao,a2,ah,ai,M,G⟩:=hst;iterate 4 refine⟨?_,fun K L=> ?_⟩
   ·trivial
   all_goals try (go_simp;exact L _ av.out;done)
  ·have av:=R hst
   obtain⟨a0,ao,a2,ah,ai,M,G,⟨g,aK,ay,aA⟩⟩:=hst;iterate 4 refine⟨?_,fun K L=> ?_⟩
   ·trivial
   all_goals try (go_simp;exact L _ av.out;done)
  ·have av:=R hst
   obtain⟨a0,ao,a2,ah,ai,M,G,r,z,l,y,T,ar⟩:=hst;iterate 2 refine⟨?_,fun K L=> ?_⟩
   ·trivial
   all_goals try (go_simp;exact L _ av.out;done)
  ·have av:=R hst
   obtain⟨a0,ao,a2,ah,ai,M,G,⟨g,aK,ay,aA⟩,r,z,l,y,T,ar⟩:=hst;iterate 2 refine⟨?_,fun K L=> ?_⟩
   ·trivial
   all_goals try (go_simp;exact L _ av.out;done)
  ·have av:=R hst
   obtain⟨a0,ao,a2,ah,ai,M,G,r,z,l,y,T,ar,I,J,aB,aN⟩:=hst;iterate 2 refine⟨?_,fun K L=> ?_⟩
   ·trivial
   all_goals try (go_simp;exact L _ av.out;done)
  ·have av:=R hst
   obtain⟨a0,ao,a2,ah,ai,M,G,⟨g,aK,ay,aA⟩,r,z,l,y,T,ar,I,J,aB,aN⟩:=hst;iterate 2 refine⟨?_,fun K L=> ?_⟩
   ·trivial
   all_goals try (go_simp;exact L _ av.out;done)
  ·trivial
  ·trivial
  ·exact hst.elim
  ·trivial
 case bi=>
  intro E b t x a ht cC hst af az K L
  cases E with
  | zero=>
   cases ht;cases az
   cases b
   ·obtain⟨a0,ao,a2,ah,ai,M,G⟩:=hst
    go_simp;refine(bC.out a (aE.out.trans (G.mono aE.out.size))).mono ?_;rintro cl wc ⟨r,z,l,y,he,h1,ab,aF⟩;subst he;have hsz:=aE.out.size;have be:=G.size;exact L _ _ ⟨V a0 aF,V ao aF,V a2 aF,V ah aF,V ai aF,V M aF,ax G aF,r,z,l,y,R rfl,R ⟨dn h1 (by omega),dn ab (by omega)⟩⟩
   obtain⟨a0,ao,a2,ah,ai,M,G,⟨g,aK,ay,aA⟩⟩:=hst;go_simp;refine(bC.out a (aE.out.trans (G.mono aE.out.size))).mono ?_;rintro cl wc ⟨r,z,l,y,he,h1,ab,aF⟩;subst he;have hsz:=aE.out.size;have be:=G.size;exact L _ _ ⟨V a0 aF,V ao aF,V a2 aF,V ah aF,V ai aF,V M aF,ax G aF,⟨g,aK,aG ay aF (am ay),aA⟩,r,z,l,y,R rfl,R ⟨dn h1 (by omega),dn ab (by omega)⟩⟩
  | succ E=>
   cases E with
   | zero=>
    cases ht;cases az
    cases b
    ·obtain⟨a0,ao,a2,ah,ai,M,G,r,z,l,y,T,ar⟩:=hst
     have hsz:=aE.out.size;have be:=G.size;refine rT Tryz.underlying26 mY rfl (by decide) rfl _ _ rfl rfl Ap np cp (b5 ms) rfl hAp (bE.out.below (aE.out.trans (G.mono aE.out.size))) (m1 ms) hnp (by omega) (fun bu bv h1 ab=> ?_);obtain⟨I,J,hv,_⟩:=dd h1;subst hv;exact L _ _ ⟨V a0 ab,V ao ab,V a2 ab,V ah ab,V ai ab,V M ab,ax G ab,r,z,l,y,T,R ⟨bo ar.out.1 ab,bo ar.out.2 ab⟩,I,J,R rfl,R (dn h1 (by omega))⟩
    obtain⟨a0,ao,a2,ah,ai,M,G,⟨g,aK,ay,aA⟩,r,z,l,y,T,ar⟩:=hst;have hsz:=aE.out.size;have be:=G.size;refine rT Tryz.underlying26 mY rfl (by decide) rfl _ _ rfl rfl Ap np cp (b5 ms) rfl hAp (bE.out.below (aE.out.trans (G.mono aE.out.size))) (m1 ms) hnp (by omega) (fun bu bv h1 ab=> ?_);obtain⟨I,J,hv,_⟩:=dd h1;subst hv;exact L _ _ ⟨V a0 ab,V ao ab,V a2 ab,V ah ab,V ai ab,V M ab,ax G ab,⟨g,aK,aG ay ab (am ay),aA⟩,r,z,l,y,T,R ⟨bo ar.out.1 ab,bo ar.out.2 ab⟩,I,J,R rfl,R (dn h1 (by omega))⟩
   | succ E=>
    cases E with
    | zero=>
     cases ht;cases az
     cases b
     ·obtain⟨a0,ao,a2,ah,ai,M,G,r,z,l,y,T,ar,I,J,aB,aN⟩:=hst
      have aO:=T.out;have bA:=aB.out;rw[aO,bA] at L |-;go_simp;exact L _ _ ⟨a0,ao,a2,ah,ai,M,G,r,z,l,y,T,ar,I,J,aB,aN,R rfl⟩
     obtain⟨a0,ao,a2,ah,ai,M,G,⟨g,aK,ay,aA⟩,r,z,l,y,T,ar,I,J,aB,aN⟩:=hst;have aO:=T.out;have bA:=aB.out;rw[aO,bA] at L |-;go_simp;exact L _ _ ⟨a0,ao,a2,ah,ai,M,G,⟨g,aK,ay,aA⟩,r,z,l,y,T,ar,I,J,aB,aN,R rfl⟩
    | succ E=>
     cases E with
     | zero=>
      cases ht;cases az
      cases b
      ·exact absurd (cC (by kernel_rfl)) (by decide)
      obtain⟨a0,ao,a2,ah,ai,M,G,⟨g,aK,ay,aA⟩,r,z,l,y,T,ar,I,J,aB,aN,aS⟩:=hst;have aO:=aK.out;have aI:=aS.out;obtain⟨cO,z1,z2,cP,cQ,cb⟩:=cx ay;have cR:=br ay;have cT:=am ay;have a3:=ar.out.1;have a4:=ar.out.2;have a9:=aN.out;have bf:=dy a3 ay (by decide);have bg:=dy a4 ay (by decide);have bh:=dy a9 ay (by decide);have cz:=R (bq (bq (bq (bq (bq (bq ay 0 (B o W)) 1 (B o H)) 2 (O r nm z)) 3 (O l nc y)) 4 (O I np J)) 5 (O F 0 0));have cw:=R ((((((G.setCell (p:=⟨g,0,F⟩) aA.out (B o W)).setCell (p:=⟨g,1,F⟩) aA.out (B o H)).setCell (p:=⟨g,2,F⟩) aA.out (O r nm z)).setCell (p:=⟨g,3,F⟩) aA.out (O l nc y)).setCell (p:=⟨g,4,F⟩) aA.out (O I np J)).setCell (p:=⟨g,5,F⟩) aA.out (O F 0 0))
      have cJ:=R (dg (dg (dg (dg (dg (dg a3 (fun k P e=>bf (by rw[P,e])) 0 (B o W)) (fun k P e=>bf (by rw[P,e])) 1 (B o H)) (fun k P e=>bf (by rw[P,e])) 2 (O r nm z)) (fun k P e=>bf (by rw[P,e])) 3 (O l nc y)) (fun k P e=>bf (by rw[P,e])) 4 (O I np J)) (fun k P e=>bf (by rw[P,e])) 5 (O F 0 0));have cK:=R (dg (dg (dg (dg (dg (dg a4 (fun k P e=>bg (by rw[P,e])) 0 (B o W)) (fun k P e=>bg (by rw[P,e])) 1 (B o H)) (fun k P e=>bg (by rw[P,e])) 2 (O r nm z)) (fun k P e=>bg (by rw[P,e])) 3 (O l nc y)) (fun k P e=>bg (by rw[P,e])) 4 (O I np J)) (fun k P e=>bg (by rw[P,e])) 5 (O F 0 0));have cL:=R (dg (dg (dg (dg (dg (dg a9 (fun k P e=>bh (by rw[P,e])) 0 (B o W)) (fun k P e=>bh (by rw[P,e])) 1 (B o H)) (fun k P e=>bh (by rw[P,e])) 2 (O r nm z)) (fun k P e=>bh (by rw[P,e])) 3 (O l nc y)) (fun k P e=>bh (by rw[P,e])) 4 (O I np J)) (fun k P e=>bh (by rw[P,e])) 5 (O F 0 0))
      clear bf bg bh a3 a4 a9;rw[aO,aI] at L |-;go_simp;exact L U _ ⟨cw.out,g,r,z,l,y,I,J,aK,by simpa using cz.out,aA,T,aB,aS,R ⟨cJ.out,cK.out,cL.out⟩⟩
     | succ E=>
      simp at ht
 case hF=>
  intro E x a a5 hst af az K L;have a5:E<=4:=a5;cases az
  rcases(show E=0∨E=1∨E=2∨E=3∨E=4 by omega) with rfl | rfl | rfl | rfl | rfl
  ·obtain⟨a0,ao,a2,ah,ai,M,G⟩:=hst
   go_simp;exact L (ad (D ⟨a.heap.size,0,F⟩)) _ ⟨aD a0 (Y #[B o 0, B o 0, O F 0 0, O F 0 0, O F 0 0, O F 0 0] 29),aD ao (Y #[B o 0, B o 0, O F 0 0, O F 0 0, O F 0 0, O F 0 0] 29),aD a2 (Y #[B o 0, B o 0, O F 0 0, O F 0 0, O F 0 0, O F 0 0] 29),aD ah (Y #[B o 0, B o 0, O F 0 0, O F 0 0, O F 0 0, O F 0 0] 29),aD ai (Y #[B o 0, B o 0, O F 0 0, O F 0 0, O F 0 0, O F 0 0] 29),aD M (Y #[B o 0, B o 0, O F 0 0, O F 0 0, O F 0 0, O F 0 0] 29),G.alloc G.size (Y #[B o 0, B o 0, O F 0 0, O F 0 0, O F 0 0, O F 0 0] 29),⟨a.heap.size,R rfl,aQ a (Y #[B o 0, B o 0, O F 0 0, O F 0 0, O F 0 0, O F 0 0] 29),R G.size⟩⟩
  ·obtain⟨a0,ao,a2,ah,ai,M,G,r,z,l,y,T,ar⟩:=hst
   go_simp;exact L (ad (D ⟨a.heap.size,0,F⟩)) _ ⟨aD a0 (Y #[B o 0, B o 0, O F 0 0, O F 0 0, O F 0 0, O F 0 0] 29),aD ao (Y #[B o 0, B o 0, O F 0 0, O F 0 0, O F 0 0, O F 0 0] 29),aD a2 (Y #[B o 0, B o 0, O F 0 0, O F 0 0, O F 0 0, O F 0 0] 29),aD ah (Y #[B o 0, B o 0, O F 0 0, O F 0 0, O F 0 0, O F 0 0] 29),aD ai (Y #[B o 0, B o 0, O F 0 0, O F 0 0, O F 0 0, O F 0 0] 29),aD M (Y #[B o 0, B o 0, O F 0 0, O F 0 0, O F 0 0, O F 0 0] 29),G.alloc G.size (Y #[B o 0, B o 0, O F 0 0, O F 0 0, O F 0 0, O F 0 0] 29),⟨a.heap.size,R rfl,aQ a (Y #[B o 0, B o 0, O F 0 0, O F 0 0, O F 0 0, O F 0 0] 29),R G.size⟩,r,z,l,y,T,R ⟨bo ar.out.1 (aV a (Y #[B o 0, B o 0, O F 0 0, O F 0 0, O F 0 0, O F 0 0] 29)),bo ar.out.2 (aV a (Y #[B o 0, B o 0, O F 0 0, O F 0 0, O F 0 0, O F 0 0] 29))⟩⟩
  ·obtain⟨a0,ao,a2,ah,ai,M,G,r,z,l,y,T,ar,I,J,aB,aN⟩:=hst
   go_simp;exact L (ad (D ⟨a.heap.size,0,F⟩)) _ ⟨aD a0 (Y #[B o 0, B o 0, O F 0 0, O F 0 0, O F 0 0, O F 0 0] 29),aD ao (Y #[B o 0, B o 0, O F 0 0, O F 0 0, O F 0 0, O F 0 0] 29),aD a2 (Y #[B o 0, B o 0, O F 0 0, O F 0 0, O F 0 0, O F 0 0] 29),aD ah (Y #[B o 0, B o 0, O F 0 0, O F 0 0, O F 0 0, O F 0 0] 29),aD ai (Y #[B o 0, B o 0, O F 0 0, O F 0 0, O F 0 0, O F 0 0] 29),aD M (Y #[B o 0, B o 0, O F 0 0, O F 0 0, O F 0 0, O F 0 0] 29),G.alloc G.size (Y #[B o 0, B o 0, O F 0 0, O F 0 0, O F 0 0, O F 0 0] 29),⟨a.heap.size,R rfl,aQ a (Y #[B o 0, B o 0, O F 0 0, O F 0 0, O F 0 0, O F 0 0] 29),R G.size⟩,r,z,l,y,T,R ⟨bo ar.out.1 (aV a (Y #[B o 0, B o 0, O F 0 0, O F 0 0, O F 0 0, O F 0 0] 29)),bo ar.out.2 (aV a (Y #[B o 0, B o 0, O F 0 0, O F 0 0, O F 0 0, O F 0 0] 29))⟩,I,J,aB,R (bo aN.out (aV a (Y #[B o 0, B o 0, O F 0 0, O F 0 0, O F 0 0, O F 0 0] 29)))⟩
  ·obtain⟨a0,ao,a2,ah,ai,M,G,r,z,l,y,T,ar,I,J,aB,aN,aS⟩:=hst
   go_simp;exact L (ad (D ⟨a.heap.size,0,F⟩)) _ ⟨aD a0 (Y #[B o 0, B o 0, O F 0 0, O F 0 0, O F 0 0, O F 0 0] 29),aD ao (Y #[B o 0, B o 0, O F 0 0, O F 0 0, O F 0 0, O F 0 0] 29),aD a2 (Y #[B o 0, B o 0, O F 0 0, O F 0 0, O F 0 0, O F 0 0] 29),aD ah (Y #[B o 0, B o 0, O F 0 0, O F 0 0, O F 0 0, O F 0 0] 29),aD ai (Y #[B o 0, B o 0, O F 0 0, O F 0 0, O F 0 0, O F 0 0] 29),aD M (Y #[B o 0, B o 0, O F 0 0, O F 0 0, O F 0 0, O F 0 0] 29),G.alloc G.size (Y #[B o 0, B o 0, O F 0 0, O F 0 0, O F 0 0, O F 0 0] 29),⟨a.heap.size,R rfl,aQ a (Y #[B o 0, B o 0, O F 0 0, O F 0 0, O F 0 0, O F 0 0] 29),R G.size⟩,r,z,l,y,T,R ⟨bo ar.out.1 (aV a (Y #[B o 0, B o 0, O F 0 0, O F 0 0, O F 0 0, O F 0 0] 29)),bo ar.out.2 (aV a (Y #[B o 0, B o 0, O F 0 0, O F 0 0, O F 0 0, O F 0 0] 29))⟩,I,J,aB,R (bo aN.out (aV a (Y #[B o 0, B o 0, O F 0 0, O F 0 0, O F 0 0, O F 0 0] 29))),aS⟩
  ·exact hst.elim
 obtain⟨G,g,r,z,l,y,I,J,aK,ay,aA,T,aB,aS,bs⟩:=hst;have bL:=T.out;have ap:=aB.out;have ak:=aS.out;have bM:=aK.out;rw[bL,ap,ak,bM];have bD:Hid (fV w w1 g W H (O r nm z) (O l nc y) (O I np J) (O F 0 0) (O F 0 0) nm nc np mask cs ms (sts.take 0) a):=R ⟨G,aA.out,ay,bs.out.1,bs.out.2.1,bs.out.2.2,by rw[List.take_zero];exact dv.nil _ _⟩;have cV:=aA;clear bL ap ak bM T aB aS aK ay aA bs G a0 ao a2 ah ai
 go_wp2_with fail
 go_loopw [4] (fun x wr=>∃(i:Nat) (aC:ae),i<=sts.length/\x= B o i/\Hid (fV w w1 g W H (O r nm z) (O l nc y) (O I np J) aC aC nm nc np mask cs ms (sts.take i) wr)) (fun x _=>sts.length-(intOf x).toNat)
 case atStart=>exact⟨0, O F 0 0,by omega,rfl,bD⟩
 clear bD;obtain⟨i,aC,al,rfl,N⟩:=hrel;replace M:=V M N.out.bel;have aL:=N.out.cell;by_cases cy:i < sts.length
 ·have cX:(i:Int) < (ns:Int):=by have:=bl.out;omega
  obtain⟨s,a8⟩:∃s,sts[i]? =D s:=⟨_,bb cy⟩;have bp:=av.out.below aE.out;obtain⟨b,an,bj,bk,hA,cW,bt,⟨c3,c4,b4⟩,aH,f1,f2,aJ⟩:=bp.sF a8;subst hA;replace bt:=bt.fX N.out.bel ce;replace aH:=V aH N.out.bel;replace f1:=V f1 N.out.bel;replace f2:=V f2 N.out.bel;replace aJ:=V aJ N.out.bel;have co:=bH.out s (List.mem_of_getElem? a8);have bZ:sts.take (i+1)=sts.take i++ [s]:=by rw[List.take_add_one,a8];rfl
  have b2:(sts.take i).length=i:=by rw[List.length_take];omega
  obtain⟨ch,bG,cg,cd⟩:=df bZ b2 bt b4;have c1:=N.out.bel.size;clear bp bt b4 bZ b2 a8
  go_wp2_with fail
  refine ir (fin:= ?z2) [14,15,16,17,19] [[S,S,S,S,S,S,S,S,S,S,S,S,S,S,Q,Q,Q,Q,S,Q], [S,S,S,S,S,S,S,S,Q,Q,Q,Q,Q,Q,Q,Q,Q,Q,S,Q], [S,S,Q,Q,Q,Q,Q,Q,Q,Q,Q,Q,Q,Q,Q,Q,Q,Q,S,Q], [S,S,Q,Q,Q,Q,Q,Q,Q,Q,Q,Q,Q,Q,Q,Q,Q,Q,S,Q], [Q,Q,Q,Q,Q,Q,Q,Q,Q,Q,Q,Q,Q,Q,Q,Q,Q,Q,S,Q], [Q,Q,Q,Q,Q,Q,Q,Q,Q,Q,Q,Q,Q,Q,Q,Q,Q,Q,Q,Q]] [[13,12,11,9,10,8], [7,14,6,13,5,12,3,4,11,2,9,10,8], [15,7,14,6,13,5,12,3,4,11,2,9,10,8], [1,16,0,15,7,14,6,13,5,12,3,4,11,2,9,10,8], [18,17,1,16,0,15,7,14,6,13,5,12,3,4,11,2,9,10,8]] (fun x=> [ad (D ⟨g,5,F⟩),aC, ad (D ⟨w.heap.size,5,F⟩), O (D ⟨b,an,F⟩) ns cS, B o (i:Int), ad (D ⟨b,an+i*4,F⟩), ad (D ⟨b,an+i*4,F⟩), aq #[B o s.1.1, B o s.1.2.1, B o s.1.2.2], ad (D ⟨w.heap.size,5,F⟩), O (D ⟨b,an,F⟩) ns cS, B o (i:Int), ad (D ⟨b,an+i*4,F⟩), ad (D ⟨b,an+i*4+3,F⟩), O bj s.2.length bk,(x 0),(x 1),(x 2),(x 3), ad (D ⟨g,5,F⟩),(x 4)]) (fun E x a=>match E with | 0=>a.cell? ⟨b,an+i*4,F⟩=D (B o s.1.1)/\a.cell? ⟨b,an+i*4+1,F⟩=D (B o s.1.2.1)/\a.cell? ⟨b,an+i*4+2,F⟩=D (B o s.1.2.2)/\a.cell? ⟨b,an+i*4+3,F⟩=D (O bj s.2.length bk)/\a.cell? ⟨w.heap.size,5,F⟩=D (O (D ⟨b,an,F⟩) ns cS)/\a.cell? ⟨g,5,F⟩=D aC/\Below wr.heap.size wr a/\Hid (fV w w1 g W H (O r nm z) (O l nc y) (O I np J) aC aC nm nc np mask cs ms (sts.take i) a) | 1=>a.cell? ⟨b,an+i*4,F⟩=D (B o s.1.1)/\a.cell? ⟨b,an+i*4+1,F⟩=D (B o s.1.2.1)/\a.cell? ⟨b,an+i*4+2,F⟩=D (B o s.1.2.2)/\a.cell? ⟨b,an+i*4+3,F⟩=D (O bj s.2.length bk)/\a.cell? ⟨w.heap.size,5,F⟩=D (O (D ⟨b,an,F⟩) ns cS)/\a.cell? ⟨g,5,F⟩=D aC/\Below wr.heap.size wr a/\Hid (fV w w1 g W H (O r nm z) (O l nc y) (O I np J) aC aC nm nc np mask cs ms (sts.take i) a)/\∃aw c2,Hid (x 0= O aw s.2.length c2)/\Hid (a.ownsRow w1.heap.size 53 3 (O aw s.2.length c2) s.2.length (bn s.2)) | 2=>a.cell? ⟨b,an+i*4,F⟩=D (B o s.1.1)/\a.cell? ⟨b,an+i*4+1,F⟩=D (B o s.1.2.1)/\a.cell? ⟨b,an+i*4+2,F⟩=D (B o s.1.2.2)/\a.cell? ⟨b,an+i*4+3,F⟩=D (O bj s.2.length bk)/\a.cell? ⟨w.heap.size,5,F⟩=D (O (D ⟨b,an,F⟩) ns cS)/\a.cell? ⟨g,5,F⟩=D aC/\Below wr.heap.size wr a/\Hid (fV w w1 g W H (O r nm z) (O l nc y) (O I np J) aC aC nm nc np mask cs ms (sts.take i) a)/\∃aw c2,Hid (x 0= O aw s.2.length c2)/\Hid (a.ownsRow w1.heap.size 53 3 (O aw s.2.length c2) s.2.length (bn s.2))/\Hid (x 1= aq #[B o s.1.1, B o s.1.2.1, B o s.1.2.2, O aw s.2.length c2]) | 3=>a.cell? ⟨b,an+i*4,F⟩=D (B o s.1.1)/\a.cell? ⟨b,an+i*4+1,F⟩=D (B o s.1.2.1)/\a.cell? ⟨b,an+i*4+2,F⟩=D (B o s.1.2.2)/\a.cell? ⟨b,an+i*4+3,F⟩=D (O bj s.2.length bk)/\a.cell? ⟨w.heap.size,5,F⟩=D (O (D ⟨b,an,F⟩) ns cS)/\a.cell? ⟨g,5,F⟩=D aC/\Below wr.heap.size wr a/\Hid (fV w w1 g W H (O r nm z) (O l nc y) (O I np J) aC aC nm nc np mask cs ms (sts.take i) a)/\∃aw c2,Hid (x 0= O aw s.2.length c2)/\Hid (a.ownsRow w1.heap.size 53 3 (O aw s.2.length c2) s.2.length (bn s.2))/\∃h,Hid (x 2= O (D ⟨h,0,F⟩) 1 1)/\a.heap[h]? =D (Y #[B o s.1.1, B o s.1.2.1, B o s.1.2.2, O aw s.2.length c2] 56 (0,0)) | 4=>Below w1.heap.size w1 a/\Hid (fV w w1 g W H (O r nm z) (O l nc y) (O I np J) aC (x 3) nm nc np mask cs ms (sts.take (i+1)) a) | _=>Below w1.heap.size w1 a/\Hid (fV w w1 g W H (O r nm z) (O l nc y) (O I np J) (x 3) (x 3) nm nc np mask cs ms (sts.take (i+1)) a)) ?hf (by kernel_rfl) (by kernel_rfl) (fun _=>rfl) (by kernel_rfl) ?hv ⟨aH,f1,f2,aJ,M,aL,aX.drew,R (N.out.below aX.drew)⟩ ?hA ?bi (fun x a hst=> ?he)
  case hf=>intro x;simp only[aT,a6,bd,ba,bc];exact rfl
  case hv=>
   intro x E t v h
   cases E with
   | zero=>cases h;rfl
   | succ E=>
    cases E with
    | zero=>cases h;rfl
    | succ E=>
     cases E with
     | zero=>cases h;rfl
     | succ E=>
      cases E with
      | zero=>cases h;rfl
      | succ E=>
       cases E with
       | zero=>cases h;rfl
       | succ E=>
        simp at h
  case hA=>
   intro E x a a5 hst;have a5:E<=5:=a5;rcases(show E=0∨E=1∨E=2∨E=3∨E=4∨E=5 by omega) with rfl | rfl | rfl | rfl | rfl | rfl
   ·have av:=R hst
    obtain⟨aH,f1,f2,aJ,M,aL,G,N⟩:=hst;iterate 15 refine⟨?_,fun K L=> ?_⟩
    ·trivial
    all_goals try (go_simp;exact L _ av.out;done)
   ·have av:=R hst
    obtain⟨aH,f1,f2,aJ,M,aL,G,N,aw,c2,T,az⟩:=hst;iterate 9 refine⟨?_,fun K L=> ?_⟩
    ·trivial
    all_goals try (go_simp;exact L _ av.out;done)
   ·have av:=R hst
    obtain⟨aH,f1,f2,aJ,M,aL,G,N,aw,c2,T,az,aB⟩:=hst;iterate 3 refine⟨?_,fun K L=> ?_⟩
    ·trivial
    all_goals try (go_simp;exact L _ av.out;done)
   ·have av:=R hst
    obtain⟨aH,f1,f2,aJ,M,aL,G,N,aw,c2,T,az,h,aS,bW⟩:=hst;iterate 3 refine⟨?_,fun K L=> ?_⟩
    ·trivial
    all_goals try (go_simp;exact L _ av.out;done)
   ·have av:=R hst
    obtain⟨G,N⟩:=hst;iterate 1 refine⟨?_,fun K L=> ?_⟩
    ·trivial
    all_goals try (go_simp;exact L _ av.out;done)
   ·trivial
  case bi=>
   intro E t x a ht hst af az K L
   cases E with
   | zero=>
    cases ht;cases az
    obtain⟨aH,f1,f2,aJ,M,aL,G,N⟩:=hst;have be:=N.out.bel.size;refine rT Tryz.underlying54 jm rfl (by decide) rfl _ _ rfl rfl bj s.2.length bk (bn s.2) rfl cd.out (cg.out.below G) (rY s.2) co (by omega) (fun bu bv h1 ab=> ?_);obtain⟨aw,c2,hv,_⟩:=dd h1;subst hv;exact L _ _ ⟨V aH ab,V f1 ab,V f2 ab,V aJ ab,V M ab,V aL ab,ax G ab,R (N.out.below ab),aw,c2,R rfl,R (dn h1 be)⟩
   | succ E=>
    cases E with
    | zero=>
     cases ht;cases az
     obtain⟨aH,f1,f2,aJ,M,aL,G,N,aw,c2,T,az⟩:=hst;have aO:=T.out;rw[aO] at L |-;go_simp;exact L _ _ ⟨aH,f1,f2,aJ,M,aL,G,N,aw,c2,T,az,R rfl⟩
    | succ E=>
     cases E with
     | zero=>
      cases ht;cases az
      obtain⟨aH,f1,f2,aJ,M,aL,G,N,aw,c2,T,az,aB⟩:=hst;have aO:=aB.out;rw[aO] at L |-;go_simp;have a1:=aV a (Y #[B o s.1.1, B o s.1.2.1, B o s.1.2.2, O aw s.2.length c2] 56);exact L (O (D ⟨a.heap.size,0,F⟩) 1 1) _ ⟨V aH a1,V f1 a1,V f2 a1,V aJ a1,V M a1,V aL a1,ax G a1,R (N.out.below a1),aw,c2,T,R (bo az.out a1),a.heap.size,R rfl,aQ a (Y #[B o s.1.1, B o s.1.2.1, B o s.1.2.2, O aw s.2.length c2] 56)⟩
     | succ E=>
      cases E with
      | zero=>
       cases ht;cases az
       obtain⟨aH,f1,f2,aJ,M,aL,G,N,aw,c2,T,az,h,aS,bW⟩:=hst;have aO:=aS.out;obtain⟨cM,cA,cB⟩:=N.out.push (s:=s) az.out;have be:=N.out.bel.size;rw[aO] at L |-;refine CP Tryz.underlying27 rS rfl (by decide) rfl _ _ rfl w1.heap.size aC (sts.take i).length cM [B o s.1.1, B o s.1.2.1, B o s.1.2.2, O aw s.2.length c2] rfl cA be 1 h rfl bW rfl (rU _ _ _ _ _ _) (by rw[bG.out];omega) (by rw[bG.out];omega) (fun bu bv a3 a4 a9=> ?_);have bz:=cB bu bv a3 a4 a9;rw[<-ch.out] at bz;exact L _ _ ⟨bz.bel,R bz⟩
      | succ E=>
       cases E with
       | zero=>
        cases ht;cases az
        obtain⟨G,N⟩:=hst;obtain⟨cU,c5,hr,b3⟩:∃A n c,x 3= O A n c:=by obtain⟨A,c,h⟩:=N.out.dS.nr;exact⟨A,_,c,h⟩
        rw[b3] at N L |-;have bS:=N.out.bT;have cb:=N.out.cell;have cR:=br bS;have cT:=am bS;go_simp;refine L U _ ⟨N.out.store.bel, ?_⟩;rw[show gj x (0+1+1+1+1) U 3=x 3 from rfl,b3];exact R N.out.store
       | succ E=>
        simp at ht
  obtain⟨G,N⟩:=hst;have ag:=N;obtain⟨bx,bN⟩:∃bx,bx=x 3:=⟨_,rfl⟩;rw[<-bN] at ag;clear bN N;go_wp2;go_roundw
  case rel=>exact⟨i+1,bx,by omega,by go_num,ag⟩
  case measure=>simp[intOf];omega
 obtain rfl:i=sts.length:=by omega
 have c0:¬((sts.length:Int) < (ns:Int)):=by have:=bl.out;omega
 rw[DH] at N;obtain⟨aU,aZ,cn⟩:=N.out.dS.nr;subst cn;have aM:=aG bm.out N.out.bel (am bm.out);have bU:=N.out.bT;have cZ:w.heap.size+1 < w1.heap.size:=am bm.out;obtain⟨cO,z1,z2,cP,cQ,cb⟩:=cx bU;obtain⟨c6,c7,c8,c9,da,db⟩:=cx aM;have dc:=br aM;have de:=am aM;clear bU
 go_wp2_with fail
 have cv:Below w.heap.size w wr:=aE.out.trans (N.out.bel.mono aE.out.size);have bV:=kU aM (B o W) (B o H) (O r nm z) (O l nc y) (O I np J) (O aU sts.length aZ);have a3:=hM N.out.cN aM (by decide) (B o W) (B o H) (O r nm z) (O l nc y) (O I np J) (O aU sts.length aZ);have a4:=hM N.out.ct aM (by decide) (B o W) (B o H) (O r nm z) (O l nc y) (O I np J) (O aU sts.length aZ);have a9:=hM N.out.ee aM (by decide) (B o W) (B o H) (O r nm z) (O l nc y) (O I np J) (O aU sts.length aZ);have b9:=N.out.dS.jh aM (by decide) (by decide) (B o W) (B o H) (O r nm z) (O l nc y) (O I np J) (O aU sts.length aZ);have bR:=kT cv (Nat.le_succ w.heap.size) (B o W) (B o H) (O r nm z) (O l nc y) (O I np J) (O aU sts.length aZ)
 generalize ((((((wr.setCell ⟨w.heap.size+1,0,F⟩ (B o W)).setCell ⟨w.heap.size+1,1,F⟩ (B o H)).setCell ⟨w.heap.size+1,2,F⟩ (O r nm z)).setCell ⟨w.heap.size+1,3,F⟩ (O l nc y)).setCell ⟨w.heap.size+1,4,F⟩ (O I np J)).setCell ⟨w.heap.size+1,5,F⟩ (O aU sts.length aZ))=wF at bV a3 a4 a9 b9 bR |-;obtain⟨cD,cE,cF,cG,cH,cI⟩:=cx bV;have aI:∀s ∈ sts,s.2.length<=140737488351232:=fun s a8=>by have:=bH.out s a8;omega
 have cY:sts.length*48<=140737488351232:=by have:=bl.out;omega
 have bp:=b9.rd rfl (fun s a8=>av.out.ok s a8) aI (by omega);refine bodyPost_ret (v:= aq #[B o W, B o H, O r nm z, O l nc y, O I np J, O aU sts.length aZ]) (by simp[results,Tryz.results5,go_sem,cD,cE,cF,cG,cH,cI]) rfl ⟨r,z,l,y,I,J,aU,⟨aZ,by rw[bl.out]⟩,Rd.dB a3,Rd.dB a4,Rd.dB a9,(by rw[bl.out];exact bp),⟨oq a3,oq a4⟩,bR⟩
end
end Go.Proofs.YteaeipgfjmnecaaGreatDoor

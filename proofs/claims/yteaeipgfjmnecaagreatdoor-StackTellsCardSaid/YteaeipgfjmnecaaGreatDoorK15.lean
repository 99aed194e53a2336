/- Lemmas; each says its own conditions. -/
import Derived.Test.YteaeipgfjmnecaaGreatDoorK14
import Derived.Test.YteaeipgfjmnecaaGreatDoorK13
open And renaming intro->a7
open Bool renaming and_eq_true->cu,false->Q,true->S
open Classical renaming propDecidable->ic
open Decidable renaming decide->au
open Go renaming Value->ae,World->ac,heap_alloc_new->aQ,undef->U
open Go.Act renaming put->a6
open Go.IntKind renaming i64->b7
open Go.IntWalk renaming i64_in->ca
open Go.Value renaming slice->sg
open Go.IntKind renaming i64->o
open List renaming drop_eq_getElem_cons->ww,getD_eq_getElem?_getD->cf,getElem?_append_right->kK,getElem?_drop->so,getElem?_eq_getElem->bb,getElem?_eq_some_iff->bM,getElem?_map->jr,idxOf_lt_length_of_mem->gK,length_map->gM,length_take->iU,mem_of_getElem?->cH,setIfInBounds_toArray->bd,set_append_right->qq,set_cons_succ->ba,set_cons_zero->bc,take_add_one->hT,take_of_length_le->hU
open Go.Obj renaming cells->Y
open Option renaming isSome_iff_exists->qv,none->F,some->D
open Option.some renaming inj->cn
open Go.Proofs.Tryz renaming prog->aj
open Go.Value renaming agg->aq,bool->aa,func->eO,int->B,pointer->ad,slice->O
namespace Go.Proofs.YteaeipgfjmnecaaGreatDoor
set_option linter.unusedSimpArgs false
set_option linter.unusedVariables false
set_option maxHeartbeats 12800000
section
set_option maxRecDepth 100000
open Go.RowKit Go.Maps
variable {L:List ah}{ms:List aR}
open Classical in
noncomputable def mZ(L:List ah)(C:aO->Bool)(ms:List aR):Bool:=au (fp L C ms)
theorem um{C:aO->Bool}(h:fp L C ms):mZ L C ms=S:=@decide_eq_true _ (ic _) h
theorem Ay{C:aO->Bool}(h:¬fp L C ms):mZ L C ms=Q:=@decide_eq_false _ (ic _) h
theorem Ax{C:aO->Bool}:mZ L C ms=S↔fp L C ms:=@decide_eq_true_iff _ (ic _)
theorem g0{m:aR}(h:bf m=S):dh m.1 m.2.1 m.2.2.1 m.2.2.2.1=S/\m.2.2.2.2.1 % 2=0/\m.2.2.2.2.2 % 2=0:=by
 unfold bf cE cJ at h;simp only[cu,decide_eq_true_eq] at h;refine⟨h.1, ?_, ?_⟩ <;> omega
theorem Az(W H:Nat)(Am Ac Ap:Option Addr)(nm cm nc cc np cp:Nat)(mask:List Int)(cs:List bw)(ms:List aR)(w:ac)(bD:eF w W H Am nm mask Ac nc cs)(dW:Rd w 6 Ap np (b5 ms))(hnp:np<=140737488351232):
  Calls aj 27 #[g5 W H Am nm cm Ac nc cc, O Ap np cp] w fun r Z=>r= .returned (aa (mZ (bG W mask) (fr Q cs) ms))/\Below w.heap.size w Z:=by
 have eL:=aQ w (Y #[B o W, B o H, O Am nm cm, O Ac nc cc] 25);have cX:=aV w (Y #[B o W, B o H, O Am nm cm, O Ac nc cc] 25);obtain⟨a0,ao,a2,dC⟩:=dm eL;have dN:=bD.below cX;have cZ:=lh W H Am Ac nm cm nc cc mask cs (w.alloc (Y #[B o W, B o H, O Am nm cm, O Ac nc cc] 25)) dN;have eI:np=ms.length:=by
  have:=dW.1;rw[l4] at this;omega
 have dQ:∀t ∈ bG W mask,eD t:=fun t ht=>by
  have:=lg (by have:=bD.ih;omega) bD.len ht;have h1:=bD.ih;have ab:=bD.km;exact⟨by omega,by omega,this.2.2.2.2⟩
 have eB:(bG W mask).length<=1000:=by
  have h1:=ny W mask;have ab:W*H<=8*8:=Nat.mul_le_mul bD.ih.2 bD.km.2;have ag:=bD.len;omega
 obtain⟨L,ep⟩:=ai (bG W mask);obtain⟨C,dJ⟩:=ai (fr Q cs);rw[<-ep] at cZ dQ eB |-;rw[<-dJ];obtain⟨em,cV⟩:=ai (mZ L C ms);rw[<-cV];have eJ:fp L C ms->em=S:=fun h=>cV.trans (um h);have eH:¬fp L C ms->em=Q:=fun h=>cV.trans (Ay h);obtain⟨eX,cO,eR,el,eh,bP,dr,eU,ej⟩:=jG eJ eH dJ dN (dW.below cX) cZ cX dQ eI;clear eJ eH cV dJ bD dN dW cZ dQ ep eI eL;go_in;by_cases dT:np=L.length
 rotate_left
 ·have cI:¬fp L C ms:=fun h=>dT (by rw[ej.out];exact h.len)
  have bm:((np:Int) !=(L.length:Int))=S:=by
   rw[bne_iff_ne];omega
  have bQ:=R cI;clear cI dT
  go_wp2_with (go_at_call 28;refine bP.out.mono ?_;rintro r d4 ⟨v,rfl,cq,bm⟩;obtain⟨eM,cU,rfl,_⟩:=dd cq;have cb:=R (ax dr.out bm);clear cq bm)
  go_ret;exact⟨cW (cO.out bQ.out).symm,cb.out⟩
 subst dT;have fA:((L.length:Int) !=(L.length:Int))=Q:=by simp
 go_wp2_with (go_at_call 28;refine bP.out.mono ?_;rintro r d4 ⟨v,rfl,cq,bm⟩;obtain⟨eM,cU,rfl,_⟩:=dd cq;have cb:=R (ax dr.out bm);have cP:=R (dn cq (show w.heap.size<=_ by simp));have eW:=R (el.out.below bm);have dz:=R (eh.out.below bm);replace a0:=V a0 bm;replace ao:=V ao bm;replace a2:=V a2 bm;replace dC:=V dC bm;clear cq bm bP)
 have b8:ms.length=L.length:=ej.out.symm;clear el eh dr cX;go_loopw [6] (fun v wr=>∃i:Nat,i<=L.length/\v= B o i/\Hid ((∀j,j < i->i9 L ms j)/\∀j k,j < i->k < 3->fv L C ms j k)/\Hid (Below d4.heap.size d4 wr)) (fun v _=>L.length-(intOf v).toNat)
 case atStart=>exact⟨0,by omega,rfl,R ⟨fun j h=>by omega,fun j k h=>by omega⟩,R aX⟩
 obtain⟨i,al,rfl,co,ch⟩:=hrel;by_cases cC:i < L.length
 ·obtain⟨bl,bs,m,hA,eG,fz,aZ,a1,be,bg,bh,bj⟩:=Rd.mp (by rw[b8];exact dz.out) (show i < ms.length by rw[b8];exact cC)
  subst hA;obtain⟨t,ht⟩:∃t,L[i]? =D t:=⟨_,bb cC⟩;obtain⟨gt,fx,fy,fm,_⟩:=dF cP.out (by omega);injection fm with ap _ s
  subst ap;subst s;have bZ:=ch.out;have bL:=eU.out t (cH ht);have fC:(i:Int) < (L.length:Int):=by omega
  have fB:(0:Int)<=(i:Int):=by omega
  have b3:ms.getD i zeroV=m:=by rw[cf,eG];rfl
  have es:bA L ms i=dD m t:=by unfold bA;rw[b3,cf,ht];rfl
  have bI:=fun(h0:bf m=S) (W:ac)=>m3 m.1 m.2.1 m.2.2.1 m.2.2.2.1 m.2.2.2.2.1 m.2.2.2.2.2 t.1 t.2.1 t.2.2 W (gA (hJ h0) (by omega)) (g0 h0).1 (g0 h0).2.1 (g0 h0).2.2 (by have:=bL.1;omega) (by have:=bL.1;omega) (by have:=bL.2.1;omega) (by have:=bL.2.1;omega) bL.2.2.1 bL.2.2.2;obtain⟨bt,bX⟩:=ai (dD m t);rw[show h8 m.1 m.2.1 m.2.2.1 m.2.2.2.1 m.2.2.2.2.1 m.2.2.2.2.2 t.1 t.2.1 t.2.2=bt from bX.symm] at bI;have b6:i9 L ms i↔bf m=S/\eg bt.1 bt.2.1 bt.2.2=S:=by
   unfold i9 kH;rw[b3,es,<-bX]
  have ce:=fun W:ac=>vm m W;have cZ:=fun W:ac=>vn bt.1 bt.2.1 bt.2.2 W;have dw:=R (fun(h0:bf m=S)=>hJ h0);obtain⟨y,eC⟩:=ai (bf m);rw[<-eC] at ce bI b6 dw;obtain⟨bO,eE⟩:=ai (eg bt.1 bt.2.1 bt.2.2);rw[<-eE] at cZ b6;obtain⟨c5,cw,bP,cM,cN,cR,dx⟩:=kp bI ce cZ b6 b3 ht bL;have dA:=R (a7 aZ (a7 a1 (a7 be (a7 bg (a7 bh bj)))));replace aZ:=V aZ bZ;replace a1:=V a1 bZ;replace be:=V be bZ;replace bg:=V bg bZ;replace bh:=V bh bZ;replace bj:=V bj bZ;obtain⟨aI,aJ,aL⟩:=ey (bo cP.out bZ) ht;clear bI ce cZ bL es bX eC eE eG b3 b6 ht;obtain⟨fJ,rfl⟩:=ai wr
  go_wp2_with fail
  obtain⟨e7,di⟩:∃A:ae,Hid (A= aa (!y)):=⟨_,R rfl⟩;obtain⟨e8,a3⟩:∃A:ae,Hid (A= aa (!y)):=⟨_,R rfl⟩;obtain⟨e9,dj⟩:∃A:ae,Hid (A=(bif y then O (D ⟨bl,bs,F⟩) L.length cp else U)):=⟨_,R rfl⟩;obtain⟨fa,dk⟩:∃A:ae,Hid (A=(bif y then B o i else U)):=⟨_,R rfl⟩;obtain⟨fb,dq⟩:∃A:ae,Hid (A=(bif y then ad (D ⟨bl,bs+i*6,F⟩) else U)):=⟨_,R rfl⟩;obtain⟨eY,c6⟩:∃A:ae,Hid (A=(bif y then b2 m else U)):=⟨_,R rfl⟩;obtain⟨eZ,c7⟩:∃A:ae,Hid (A=(bif y then O (D ⟨gt,0,F⟩) L.length cU else U)):=⟨_,R rfl⟩;obtain⟨e0,c8⟩:∃A:ae,Hid (A=(bif y then B o i else U)):=⟨_,R rfl⟩
  obtain⟨e1,c9⟩:∃A:ae,Hid (A=(bif y then ad (D ⟨gt,i*3,F⟩) else U)):=⟨_,R rfl⟩;obtain⟨e2,da⟩:∃A:ae,Hid (A=(bif y then bK t else U)):=⟨_,R rfl⟩;obtain⟨e3,db⟩:∃A:ae,Hid (A=(bif y then bK bt else U)):=⟨_,R rfl⟩;obtain⟨e4,dc⟩:∃A:ae,Hid (A=(bif y then aa bO else U)):=⟨_,R rfl⟩;obtain⟨e5,de⟩:∃A:ae,Hid (A=(bif y then aa (!bO) else U)):=⟨_,R rfl⟩;obtain⟨e6,dg⟩:∃A:ae,Hid (A= aa ((!y) || (!bO))):=⟨_,R rfl⟩;refine bW (fin:= ?z2) [O (D ⟨bl,bs,F⟩) L.length cp, B o i, ad (D ⟨bl,bs+i*6,F⟩),b2 m, aa y,e7,e8,e9,fa,fb,eY,eZ,e0,e1,e2,e3,e4,e5,e6] ?hf bp (by kernel_rfl) rfl fun b hst=> ?_
  case hf=>simp only[aT,a6,bd,ba,bc];exact rfl
  have N:=R hst;have a:=hst;obtain⟨aZ,a1,be,bg,bh,bj,aI,aJ,aL⟩:=jV a aZ a1 be bg bh bj aI aJ aL;constructor
  ·iterate 19 refine⟨?_,fun K c=> ?_⟩
   ·trivial
   ·obtain rfl:=dg.out
    obtain rfl:=a3.out;obtain rfl:=de.out;generalize (!bO)=a1 at c |-;cases y <;> cases a1 <;> (go_simp;exact c _ N.out)
   ·obtain rfl:=de.out
    obtain rfl:=a3.out;obtain rfl:=dc.out;cases y <;> cases bO <;> (go_simp;exact c _ N.out)
   ·obtain rfl:=dc.out
    obtain rfl:=a3.out;obtain rfl:=db.out;cases y <;> first | (go_simp;exact c _ N.out;done) | (go_simp;exact aw (bP.out b) fun wc l=>c _ (ax a l))
   ·obtain rfl:=db.out
    obtain rfl:=a3.out;obtain rfl:=c6.out;obtain rfl:=da.out;cases y <;> first | (go_simp;exact c _ N.out;done) | (go_simp;exact aw (c5.out rfl b) fun wc l=>c _ (ax a l))
   ·obtain rfl:=da.out
    obtain rfl:=a3.out;obtain rfl:=c9.out;cases y <;> (go_simp;exact c _ N.out)
   ·obtain rfl:=c9.out
    obtain rfl:=a3.out;obtain rfl:=c7.out;obtain rfl:=c8.out;cases y <;> (go_simp;exact c _ N.out)
   ·obtain rfl:=c8.out
    obtain rfl:=a3.out;cases y <;> (go_simp;exact c _ N.out)
   ·obtain rfl:=c7.out
    obtain rfl:=a3.out;cases y <;> (go_simp;exact c _ N.out)
   ·obtain rfl:=c6.out
    obtain rfl:=a3.out;obtain rfl:=dq.out;cases y <;> (go_simp;exact c _ N.out)
   ·obtain rfl:=dq.out
    obtain rfl:=a3.out;obtain rfl:=dj.out;obtain rfl:=dk.out;cases y <;> (go_simp;exact c _ N.out)
   ·obtain rfl:=dk.out
    obtain rfl:=a3.out;cases y <;> (go_simp;exact c _ N.out)
   ·obtain rfl:=dj.out
    obtain rfl:=a3.out;cases y <;> (go_simp;exact c _ N.out)
   ·obtain rfl:=a3.out
    obtain rfl:=di.out;generalize (!y)=aZ at c |-;cases aZ <;> (go_simp;exact c _ N.out)
   ·obtain rfl:=di.out
    cases y <;> (go_simp;exact c _ N.out)
   ·go_simp;exact aw (cw.out b) fun wc l=>c _ (ax a l)
   iterate 4 (go_simp;exact c _ N.out)
  obtain rfl:=dg.out;clear di a3 dj dk dq c6 c7 c8 c9 da db dc de dg;by_cases bn:y=S/\bO=S
  rotate_left
  ·have cI:¬i9 L ms i:=fun h=>bn (cM.out.1 h)
   have ff:(!y || !bO)=S:=by cases y <;> cases bO <;> simp at bn |-
   obtain⟨bQ,az⟩:=aY (show ¬fp L C ms from fun h=>cI (h.may i cC)) (ax (ax cb.out ch.out) a);clear cM c5 cw bP co cI bn a aZ a1 be bg bh bj aI aJ aL;simp only[ff];go_wp2;go_ret;exact⟨cW (cO.out bQ.out).symm,az.out⟩
  obtain⟨rfl,rfl⟩:=bn;have b6:=cM.out.2 ⟨rfl,rfl⟩;have b3:=dw.out rfl;obtain⟨eV,eT⟩:=aY b6 b3;have hts:=dx.out.sm;obtain⟨eb,d6⟩:=aY (ch.out.trans (a.mono ch.out.size)) (fun W:ac=>mP t.1 t.2.1 t.2.2 W (by have:=hts.1;omega) (by have:=hts.1;omega) (by have:=hts.2.1;omega) (by have:=hts.2.1;omega) hts.2.2.1 hts.2.2.2);clear cM c5 cw bP dw b6 b3 hts aZ a1 be bg bh bj;obtain⟨fI,rfl⟩:=ai b
  go_wp2_with (go_at_call 71;refine(d6.out _).mono ?_;rintro r d5 ⟨⟨ge,rfl,ck⟩,et⟩;have eS:=R (show hk d5 ge t from ck);have cL:=R (eb.out.trans (et.mono eb.out.size));clear ck et d6 aI aJ aL a)
  go_loopw [8] (fun v wr=>∃k:Nat,k<=3/\v= B o k/\Hid (∀G,G < k->fv L C ms i G)/\Hid (Below d5.heap.size d5 wr)) (fun v _=>3-(intOf v).toNat)
  case atStart=>exact⟨0,by omega,rfl,R (fun G h=>by omega),R aX⟩
  obtain⟨k,fD,rfl,cr,cg⟩:=hrel;by_cases cD:k < 3
  ·have fG:(k:Int) < 3:=by omega
   have fF:(0:Int)<=(k:Int):=by omega
   have dP:=cL.out.trans (cg.out.mono cL.out.size);have eo:=eS.out.below cg.out;obtain⟨z,ap,ak,s⟩:=eo.at_ cD;obtain⟨aI,aJ,aL⟩:=ey (bo cP.out dP) cR.out;have hts:=dx.out.sm;have dH:=fun(bz:ac)=>qE t.1 t.2.1 t.2.2 k bz cD (by have:=hts.1;omega) (by have:=hts.1;omega) (by have:=hts.2.1;omega) (by have:=hts.2.1;omega) hts.2.2.1 hts.2.2.2;have dV:=fun h=>px (k:=k) cR.out h;have hns:=fun h=>og (k:=k) cR.out h;have hst:=rV (C:=C) (k:=k) cR.out m;have ck:=dx.out.iI cD;obtain⟨E,dK⟩:=ai (bk t k);obtain⟨aF,bX⟩:=ai (bE t k);rw[show dI t.1 t.2.1 t.2.2 k=aF from bX.symm,show ci t.1 t.2.1 t.2.2 k=E from dK.symm] at dH;rw[<-bX] at dV hns;rw[<-dK] at hst ck z ap ak s;obtain⟨d9,ei,ek,I,ef⟩:=dY dH dV hns hst ck
   have ed:=R (a7 aI (a7 aJ (a7 aL (a7 z (a7 ap (a7 ak s))))));have ec:=R dP;clear dH dV hns hst ck dK bX hts eo dP;obtain⟨bz,rfl⟩:=ai wr
   go_wp2_with fail
   refine ir (fin:= ?z3) [12,13] [[S,S,S,S,S,S,S,S,S,S,S,S,Q,Q,S], [S,S,S,S,S,S,S,S,S,S,S,S,Q,Q,S], [Q,Q,Q,Q,Q,Q,Q,Q,Q,Q,Q,S,Q,Q,S]] [[], [12,10,9,8,3,7,2,6,0,1,4,5]] (fun x=> [O (D ⟨gt,0,F⟩) L.length cU, B o i, ad (D ⟨gt,i*3,F⟩),bK t, O (D ⟨ge,0,F⟩) 3 3, B o k, ad (D ⟨ge,k*4,F⟩),bS E, .tuple #[bK aF, aa S], .tuple #[bK aF, aa S],bK aF, aa S,(x 0),(x 1), aa S]) (fun j x b=>match j with | 0=>b.cell? ⟨gt,i*3,F⟩=D (B o t.1)/\b.cell? ⟨gt,i*3+1,F⟩=D (B o t.2.1)/\b.cell? ⟨gt,i*3+2,F⟩=D (B o t.2.2)/\b.cell? ⟨ge,k*4,F⟩=D (B o E.1)/\b.cell? ⟨ge,k*4+1,F⟩=D (B o E.2.1)/\b.cell? ⟨ge,k*4+2,F⟩=D (B o E.2.2.1)/\b.cell? ⟨ge,k*4+3,F⟩=D (B o E.2.2.2)/\Below bz.heap.size bz b | 1=>b.cell? ⟨gt,i*3,F⟩=D (B o t.1)/\b.cell? ⟨gt,i*3+1,F⟩=D (B o t.2.1)/\b.cell? ⟨gt,i*3+2,F⟩=D (B o t.2.2)/\b.cell? ⟨ge,k*4,F⟩=D (B o E.1)/\b.cell? ⟨ge,k*4+1,F⟩=D (B o E.2.1)/\b.cell? ⟨ge,k*4+2,F⟩=D (B o E.2.2.1)/\b.cell? ⟨ge,k*4+3,F⟩=D (B o E.2.2.2)/\Below bz.heap.size bz b/\∃g,Hid (x 0= ad (D ⟨g,0,F⟩))/\b.heap[g]? =D (Y #[B o 0, B o 0, B o 0] 53 (0,0))/\Hid (bz.heap.size<=g) | _=>Below bz.heap.size bz b/\∃g,Hid (x 0= ad (D ⟨g,0,F⟩))/\b.heap[g]? =D (Y #[B o aF.1, B o aF.2.1, B o aF.2.2] 53 (0,0))/\Hid (bz.heap.size<=g)) ?hf (by kernel_rfl) (by kernel_rfl) (fun _=>rfl) (by kernel_rfl) ?hv ⟨aI,aJ,aL,z,ap,ak,s,aX.drew⟩ ?hA ?bi (fun x b hst=> ?_)
   case hf=>intro x;simp only[aT,a6,bd,ba,bc];exact rfl
   case hv=>
    intro x j t v h
    cases j with
    | zero=>cases h;rfl
    | succ j=>
     cases j with
     | zero=>cases h;rfl
     | succ j=>
      simp at h
   case hA=>
    intro j x b c2 hst;have c2:j<=2:=c2;rcases(show j=0∨j=1∨j=2 by omega) with rfl | rfl | rfl
    ·have I:=R hst
     obtain⟨aI,aJ,aL,z,ap,ak,s,a⟩:=hst;iterate 13 refine⟨?_,fun K c=> ?_⟩
     ·trivial
     all_goals try (go_simp;exact c _ I.out;done)
     go_simp;exact aw (d9.out b) fun wc l=>c _ ⟨V aI l,V aJ l,V aL l,V z l,V ap l,V ak l,V s l,ax a l⟩
    ·have I:=R hst
     obtain⟨aI,aJ,aL,z,ap,ak,s,a,g,bN,bv,b4⟩:=hst;iterate 13 refine⟨?_,fun K c=> ?_⟩
     ·trivial
     all_goals try (go_simp;exact c _ I.out;done)
     go_simp;exact aw (d9.out b) fun wc l=>c _ ⟨V aI l,V aJ l,V aL l,V z l,V ap l,V ak l,V s l,ax a l,g,bN,aG bv l (am bv),b4⟩
    have I:=R hst;obtain⟨a,g,bN,bv,b4⟩:=hst;iterate 2 refine⟨?_,fun K c=> ?_⟩
    ·trivial
    all_goals try (go_simp;exact c _ I.out;done)
   case bi=>
    intro j t x b ht hst af c4 K c
    cases j with
    | zero=>
     cases ht;cases c4
     obtain⟨aI,aJ,aL,z,ap,ak,s,a⟩:=hst;go_simp;exact c (ad (D ⟨b.heap.size,0,F⟩)) _ ⟨aD aI (Y #[B o 0, B o 0, B o 0] 53),aD aJ (Y #[B o 0, B o 0, B o 0] 53),aD aL (Y #[B o 0, B o 0, B o 0] 53),aD z (Y #[B o 0, B o 0, B o 0] 53),aD ap (Y #[B o 0, B o 0, B o 0] 53),aD ak (Y #[B o 0, B o 0, B o 0] 53),aD s (Y #[B o 0, B o 0, B o 0] 53),a.alloc a.size (Y #[B o 0, B o 0, B o 0] 53),b.heap.size,R rfl,aQ b (Y #[B o 0, B o 0, B o 0] 53),R a.size⟩
    | succ j=>
     cases j with
     | zero=>
      cases ht;cases c4
      obtain⟨aI,aJ,aL,z,ap,ak,s,a,g,bN,bv,b4⟩:=hst;have fo:=bN.out;obtain⟨fL,fM,z2⟩:=dl bv;have fN:=br bv;have fO:=am bv;rw[fo] at c |-;go_simp;have fq:=bq (bq (bq bv 0 (B o aF.1)) 1 (B o aF.2.1)) 2 (B o aF.2.2);exact c U _ ⟨jg a g b4.out _ _ _,g,bN,by simpa using fq,b4⟩
     | succ j=>
      simp at ht
   obtain⟨a,g,bN,bv,b4⟩:=hst;rw[bN.out];obtain⟨aA,aB,aE⟩:=dl bv;have bF:=ec.out.trans (a.mono ec.out.size);have ew:=cg.out.trans (a.mono cg.out.size);obtain⟨aZ,a1,be,bg,bh,bj⟩:=dA.out;replace aZ:=V aZ bF;replace a1:=V a1 bF;replace be:=V be bF;replace bg:=V bg bF;replace bh:=V bh bF;replace bj:=V bj bF;obtain⟨aI,aJ,aL,z,ap,ak,s⟩:=ed.out;replace z:=V z a;replace ap:=V ap a;replace ak:=V ak a;replace s:=V s a;obtain⟨ft,rfl⟩:=ai b;have dp:=ot _ (D ⟨gt,0,F⟩) cU L aF ft (bo cP.out bF) eB;obtain⟨cT,dM⟩:=ai (dU L aF);rw[<-dM] at dp;obtain⟨cQ,d8,dt,du⟩:=df dM dp bF ew;clear dM dp bF ew aI aJ aL ed bN bv b4 a
   go_wp2_with (go_at_call 30;refine aw d8.out fun fu a5=> ?_;replace aZ:=V aZ a5;replace a1:=V a1 a5;replace be:=V be a5;replace bg:=V bg a5;replace bh:=V bh a5;replace bj:=V bj a5;replace z:=V z a5;replace ap:=V ap a5;replace ak:=V ak a5;replace s:=V s a5;have eQ:=R (dt.out.trans (a5.mono dt.out.size));have dv:=R (du.out.trans (a5.mono du.out.size));clear d8 a5 dt du aA aB aE)
   obtain⟨cv,rfl⟩:=ai fu;have eK:=aQ cv (Y #[B o m.1, B o m.2.1, B o m.2.2.1, B o m.2.2.2.1, B o m.2.2.2.2.1, B o m.2.2.2.2.2] 64);have bY:=aV cv (Y #[B o m.1, B o m.2.1, B o m.2.2.1, B o m.2.2.2.1, B o m.2.2.2.2.1, B o m.2.2.2.2.2] 64);replace z:=V z bY;replace ap:=V ap bY;replace ak:=V ak bY;replace s:=V s bY;have dO:=eQ.out;have bJ:=dO.trans (bY.mono dO.size);have cA:=dv.out.trans (bY.mono dv.out.size);have dB:=R (fK.one eK);clear eK aZ a1 be bg bh bj bY;generalize cv.alloc (Y #[B o m.1, B o m.2.1, B o m.2.2.1, B o m.2.2.2.1, B o m.2.2.2.2.1, B o m.2.2.2.2.2] 64)=w10 at z ap ak s bJ cA dB |-;obtain⟨b0,b1,aC,aM⟩:=fQ bJ a0 ao a2 dC;have dE:=fun(W':ac) (fe:Below w10.heap.size w10 W')=>rn W H Am Ac nm cm nc cc mask cs E W' (eW.out.below (bJ.trans (fe.mono bJ.size)))
   obtain⟨KD,dL⟩:=ai (ea cs E);rw[<-dL] at dE;have ez:C E=au (KD=0):=by rw[eR.out,dL];unfold fr;simp
   obtain⟨ee,d7⟩:=aY ez dE;clear dL ez dE;by_cases cl:KD=0
   ·have fk:(KD !=0)=Q:=by simpa using cl
    have dy:=R cl;clear cl;refine bW (fin:= ?z4) [aq #[B o W, B o H, O Am nm cm, O Ac nc cc], O (D ⟨ge,0,F⟩) 3 3, B o k, ad (D ⟨ge,k*4,F⟩),bS E, B o KD, aa Q] ?hf bp (by kernel_rfl) rfl fun b hst=> ?_;case hf=>simp only[aT,a6,bd,ba,bc];exact rfl
    have N:=R hst;have a:=hst;obtain⟨b0,b1,aC,aM,z,ap,ak,s⟩:=md a b0 b1 aC aM z ap ak s;constructor
    ·iterate 7 refine⟨?_,fun K c=> ?_⟩
     ·trivial
     all_goals try (go_simp;exact c _ N.out;done)
     go_simp;exact aw (d7.out b a) fun wc l=>c _ (ax a l)
    have cY:=bJ.trans (a.mono bJ.size);have c0:=cA.trans (a.mono cA.size);have cd:=R (dB.out.below a);obtain⟨ct,rfl⟩:=ai b;clear a b0 b1 aC aM;have cB:C E=S:=by rw[ee.out];exact decide_eq_true dy.out
    have bx:kF L C i k m=m:=by rw[I.out];unfold mj;rw[if_pos cB]
    obtain⟨J,bn⟩:∃J,J=m:=⟨_,rfl⟩;have bx:kF L C i k m=J:=bx.trans bn.symm;have cy:=R bx;have bT:=cd;rw[<-bn] at bT;obtain⟨fw,rfl⟩:=ai ct;have M:=cY;have aH:=c0;clear cB bx bn z ap ak s
    go_wp2_with fail
    obtain⟨P,T,an,ar,av,ay⟩:=bT.out.kZ;by_cases aN:aF ∈ L
    rotate_left
    ·have a8:=ei.out aN
     have b9:cT= -1:=by rw[cQ.out];unfold dU;rw[if_neg aN]
     subst b9;have fh:(au ((0:Int)<= -1))=Q:=by decide
     have a4:∀G,G < k+1->fv L C ms i G:=by
      intro G cj;by_cases e:G=k
      ·subst e
       intro d1 bu;rw[a8] at bu;cases bu
      ·exact cr.out G (by omega)
     have bB:=R a4;clear a4 a8 aN;refine bW (fin:= ?z5) [B o (-1), aa Q, aa Q,U,U,U,U,U,U, aa Q] ?hf bp (by kernel_rfl) rfl fun b a=> ?_;case hf=>simp only[aT,a6,bd,ba,bc];exact rfl
     have I:=R a;obtain⟨P,T,an,ar,av,ay⟩:=jf a P T an ar av ay;constructor
     ·iterate 10 refine⟨?_,fun K c=> ?_⟩
      ·trivial
      all_goals try (go_simp;exact c _ I.out;done)
     have az:=R (aH.trans (a.mono aH.size));clear a P T an ar av ay M aH;go_wp2;go_roundw
     case rel=>exact⟨k+1,by omega,by go_num,bB,az⟩
     case measure=>simp[intOf];omega
    obtain⟨j,bH⟩:=ai (L.idxOf aF);have dR:j < L.length:=by rw[bH];exact gK aN
    have b9:cT=(j:Int):=by rw[cQ.out,bH];unfold dU;rw[if_pos aN]
    subst b9;have a8:=ek.out aN;rw[<-bH] at a8;have cz:=R a8;clear a8 bH aN;obtain⟨fc,fs,aP,bV,cG,fg,aA,aB,aE,aS,aU,aW⟩:=Rd.mp (by rw[b8];exact dz.out) (show j < ms.length by rw[b8];exact dR);injection bV with bV
    injection bV with g1 g2 _
    subst g1 g2;replace aA:=V aA M;replace aB:=V aB M;replace aE:=V aE M;replace aS:=V aS M;replace aU:=V aU M;replace aW:=V aW M;have fj:(j:Int) < (L.length:Int):=by omega
    have fi:(0:Int)<=(j:Int):=by omega
    have fl:=fun w=>oh aP J w;have cF:ms.getD j zeroV=aP:=by rw[cf,cG];rfl
    have cx:=R cF;clear cF cG;by_cases a9:aP=J
    ·have dX:(!au (aP=J))=Q:=by simp[a9]
     have bR:=R a9;clear a9;refine bW (fin:= ?z6) [B o (j:Int), aa S, aa S, O (D ⟨bl,bs,F⟩) L.length cp, B o (j:Int), ad (D ⟨bl,bs+j*6,F⟩),b2 aP,b2 J, aa Q, aa Q] ?hf bp (by kernel_rfl) rfl fun b a=> ?_;case hf=>simp only[aT,a6,bd,ba,bc];exact rfl
     have I:=R a;obtain⟨aA,aB,aE,aS,aU,aW,P,T,an,ar,av,ay⟩:=lb a aA aB aE aS aU aW P T an ar av ay;constructor
     ·iterate 10 refine⟨?_,fun K c=> ?_⟩
      ·trivial
      all_goals try (go_simp;exact c _ I.out;done)
     have a4:∀G,G < k+1->fv L C ms i G:=by
      intro G cj;by_cases e:G=k
      ·subst e
       intro d1 bu;rw[cz.out] at bu;cases bu
       rw[cN.out,cy.out,cx.out];exact bR.out
      ·exact cr.out G (by omega)
     obtain⟨bB,az⟩:=aY a4 (aH.trans (a.mono aH.size));clear a4 a P T an ar av ay aA aB aE aS aU aW M aH;go_wp2;go_roundw
     case rel=>exact⟨k+1,by omega,by go_num,bB,az⟩
     case measure=>simp[intOf];omega
    have dX:(!au (aP=J))=S:=by simp[a9]
    have bR:=R a9;clear a9;refine bW (fin:= ?z7) [B o (j:Int), aa S, aa S, O (D ⟨bl,bs,F⟩) L.length cp, B o (j:Int), ad (D ⟨bl,bs+j*6,F⟩),b2 aP,b2 J, aa S, aa S] ?hf bp (by kernel_rfl) rfl fun b a=> ?_;case hf=>simp only[aT,a6,bd,ba,bc];exact rfl
    have I:=R a;obtain⟨aA,aB,aE,aS,aU,aW,P,T,an,ar,av,ay⟩:=lb a aA aB aE aS aU aW P T an ar av ay;constructor
    ·iterate 10 refine⟨?_,fun K c=> ?_⟩
     ·trivial
     all_goals try (go_simp;exact c _ I.out;done)
    have bQ:=R (show ¬fp L C ms from fun h=>by
     have h1:=h.ok i k cC cD j cz.out;rw[cN.out,cy.out,cx.out] at h1;exact bR.out h1)
    have az:=R (ax cb.out (M.trans (a.mono M.size)));clear a M aH;go_wp2;go_ret;exact⟨cW (cO.out bQ.out).symm,az.out⟩
   have fk:(KD !=0)=S:=by simpa using cl
   have dy:=R cl;clear cl;refine bW (fin:= ?z8) [aq #[B o W, B o H, O Am nm cm, O Ac nc cc], O (D ⟨ge,0,F⟩) 3 3, B o k, ad (D ⟨ge,k*4,F⟩),bS E, B o KD, aa S] ?hf bp (by kernel_rfl) rfl fun b hst=> ?_;case hf=>simp only[aT,a6,bd,ba,bc];exact rfl
   have N:=R hst;have a:=hst;obtain⟨b0,b1,aC,aM,z,ap,ak,s⟩:=md a b0 b1 aC aM z ap ak s;constructor
   ·iterate 7 refine⟨?_,fun K c=> ?_⟩
    ·trivial
    all_goals try (go_simp;exact c _ N.out;done)
    go_simp;exact aw (d7.out b a) fun wc l=>c _ (ax a l)
   have cY:=bJ.trans (a.mono bJ.size);have c0:=cA.trans (a.mono cA.size);have cd:=R (dB.out.below a);obtain⟨ct,rfl⟩:=ai b;clear a b0 b1 aC aM;have cB:C E=Q:=by rw[ee.out];exact decide_eq_false dy.out
   have bx:kF L C i k m=jz (fE (gY E) (h7 E)) m:=by rw[I.out];unfold mj;rw[cB];rfl
   have dZ:=ue E;have hc:=ud ef.out;have c1:=tA dZ.1 dZ.2 hc.1 hc.2;have dG:=fun(W':ac)=>Ai E W' ef.out;obtain⟨d2,dS⟩:=ai (gY E);obtain⟨d3,c3⟩:=ai (h7 E);rw[<-dS,<-c3] at bx c1;rw[<-dS,<-c3] at dG;rw[<-c3] at hc;have bI:=fun(W':ac)=>AC d2 d3 W' (by omega) (by omega);obtain⟨bC,eq⟩:=ai (fE d2 d3);rw[<-eq] at bI bx c1;have ce:=fun(W':ac)=>sA bC.1 bC.2.1 bC.2.2.1 bC.2.2.2.1 bC.2.2.2.2.1 bC.2.2.2.2.2 m.1 m.2.1 m.2.2.1 m.2.2.2.1 m.2.2.2.2.1 m.2.2.2.2.2 W' (gA c1 (by decide)) (gA eT.out (by decide));obtain⟨J,bn⟩:∃J,J=jz bC m:=⟨_,rfl⟩;have en:∀W':ac,Calls aj 37 #[b2 bC,b2 m] W' fun fd Z=>fd= .returned (b2 J)/\Below W'.heap.size W' Z:=fun W'=>by rw[bn];exact ce W'
   rw[<-bn] at bx;obtain⟨eN,eP,cw,cy⟩:=df dG bI en bx;clear cB bx dZ hc c1 dG bI ce en dS c3 eq bn
   go_wp2_with fail
   refine mb (fin:= ?z9) [8] [7,5,6,4,3,2,0,1] [S,S,S,S,S,S,S,S,Q] [Q,Q,Q,Q,Q,Q,Q,Q,Q] (fun x=> [O (D ⟨ge,0,F⟩) 3 3, B o k, ad (D ⟨ge,k*4,F⟩),bS E,mD d2 d3,b2 bC,b2 m,b2 J,(x 0)]) (fun j _ b=>match j with | 0=>b.cell? ⟨ge,k*4,F⟩=D (B o E.1)/\b.cell? ⟨ge,k*4+1,F⟩=D (B o E.2.1)/\b.cell? ⟨ge,k*4+2,F⟩=D (B o E.2.2.1)/\b.cell? ⟨ge,k*4+3,F⟩=D (B o E.2.2.2)/\Below ct.heap.size ct b | _=>∃bU:ac,(bU.cell? ⟨ge,k*4,F⟩=D (B o E.1)/\bU.cell? ⟨ge,k*4+1,F⟩=D (B o E.2.1)/\bU.cell? ⟨ge,k*4+2,F⟩=D (B o E.2.2.1)/\bU.cell? ⟨ge,k*4+3,F⟩=D (B o E.2.2.2)/\Below ct.heap.size ct bU)/\b=jh bU cv.heap.size 0 J) ?hf (by kernel_rfl) (by kernel_rfl) (fun _=>rfl) (by kernel_rfl) ?hv ⟨z,ap,ak,s,aX.drew⟩ (fun x b hst=> ?hs) ?aK ?bi (fun x b hst=> ?he)
   case hf=>intro x;simp only[aT,a6,bd,ba,bc];exact rfl
   case hv=>
    intro x j t v h;cases j with
    | zero=>cases h;rfl
    | succ j=>simp at h
   case hs=>
    have I:=R hst;obtain⟨z,ap,ak,s,a⟩:=hst;iterate 8 refine⟨?_,fun K c=> ?_⟩
    ·trivial
    all_goals try (go_simp;exact c _ I.out;done)
    ·go_simp
     exact aw (cw.out _) fun wc l=>c _ ⟨V z l,V ap l,V ak l,V s l,ax a l⟩
    ·have cK:=cd.out.below a
     obtain⟨P,T,an,ar,av,ay⟩:=cK.kZ;go_simp;exact c _ I.out
    ·go_simp
     exact aw (eP.out _) fun wc l=>c _ ⟨V z l,V ap l,V ak l,V s l,ax a l⟩
    go_simp;exact aw (eN.out _) fun wc l=>c _ ⟨V z l,V ap l,V ak l,V s l,ax a l⟩
   case aK=>intro j x b _ _ _;trivial
   case bi=>
    intro j t x b ht hst af c4 K c;obtain rfl:j=0:=by cases j with | zero=>rfl | succ j=>simp at ht
    cases ht;cases c4
    have I:=R hst;obtain⟨z,ap,ak,s,a⟩:=hst;have cK:=cd.out.below a;obtain⟨P,T,an,ar,av,ay⟩:=cK.kZ;have eu:=cK.eu;have fH:=am (show b.heap[cv.heap.size]? =_ from cK);go_simp;exact c U _ ⟨_,I.out,rfl⟩
   obtain⟨bU,hst,er⟩:=hst;obtain⟨z,ap,ak,s,a⟩:=hst;have eA:=cd.out.below a;have bT:=R (eA.set 0 J);have ev:=cY.trans (a.mono cY.size);have ex:=c0.trans (a.mono c0.size);have M:=pQ ev dO.size 0 J;have aH:=pQ ex dv.out.size 0 J;rw[<-er] at bT M aH;have bT:Hid (fK b cv.heap.size [J]):=bT;obtain⟨fw,rfl⟩:=ai b;clear eA ev ex er a z ap ak s cd
   go_wp2_with fail
   obtain⟨P,T,an,ar,av,ay⟩:=bT.out.kZ;by_cases aN:aF ∈ L
   rotate_left
   ·have a8:=ei.out aN
    have b9:cT= -1:=by rw[cQ.out];unfold dU;rw[if_neg aN]
    subst b9;have fh:(au ((0:Int)<= -1))=Q:=by decide
    have a4:∀G,G < k+1->fv L C ms i G:=by
     intro G cj;by_cases e:G=k
     ·subst e
      intro d1 bu;rw[a8] at bu;cases bu
     ·exact cr.out G (by omega)
    have bB:=R a4;clear a4 a8 aN;refine bW (fin:= ?z10) [B o (-1), aa Q, aa Q,U,U,U,U,U,U, aa Q] ?hf bp (by kernel_rfl) rfl fun b a=> ?_;case hf=>simp only[aT,a6,bd,ba,bc];exact rfl
    have I:=R a;obtain⟨P,T,an,ar,av,ay⟩:=jf a P T an ar av ay;constructor
    ·iterate 10 refine⟨?_,fun K c=> ?_⟩
     ·trivial
     all_goals try (go_simp;exact c _ I.out;done)
    have az:=R (aH.trans (a.mono aH.size));clear a P T an ar av ay M aH;go_wp2;go_roundw
    case rel=>exact⟨k+1,by omega,by go_num,bB,az⟩
    case measure=>simp[intOf];omega
   obtain⟨j,bH⟩:=ai (L.idxOf aF);have dR:j < L.length:=by rw[bH];exact gK aN
   have b9:cT=(j:Int):=by rw[cQ.out,bH];unfold dU;rw[if_pos aN]
   subst b9;have a8:=ek.out aN;rw[<-bH] at a8;have cz:=R a8;clear a8 bH aN;obtain⟨fc,fs,aP,bV,cG,fg,aA,aB,aE,aS,aU,aW⟩:=Rd.mp (by rw[b8];exact dz.out) (show j < ms.length by rw[b8];exact dR);injection bV with bV
   injection bV with g1 g2 _
   subst g1 g2;replace aA:=V aA M;replace aB:=V aB M;replace aE:=V aE M;replace aS:=V aS M;replace aU:=V aU M;replace aW:=V aW M;have fj:(j:Int) < (L.length:Int):=by omega
   have fi:(0:Int)<=(j:Int):=by omega
   have fl:=fun w=>oh aP J w;have cF:ms.getD j zeroV=aP:=by rw[cf,cG];rfl
   have cx:=R cF;clear cF cG;by_cases a9:aP=J
   ·have dX:(!au (aP=J))=Q:=by simp[a9]
    have bR:=R a9;clear a9;refine bW (fin:= ?z11) [B o (j:Int), aa S, aa S, O (D ⟨bl,bs,F⟩) L.length cp, B o (j:Int), ad (D ⟨bl,bs+j*6,F⟩),b2 aP,b2 J, aa Q, aa Q] ?hf bp (by kernel_rfl) rfl fun b a=> ?_;case hf=>simp only[aT,a6,bd,ba,bc];exact rfl
    have I:=R a;obtain⟨aA,aB,aE,aS,aU,aW,P,T,an,ar,av,ay⟩:=lb a aA aB aE aS aU aW P T an ar av ay;constructor
    ·iterate 10 refine⟨?_,fun K c=> ?_⟩
     ·trivial
     all_goals try (go_simp;exact c _ I.out;done)
    have a4:∀G,G < k+1->fv L C ms i G:=by
     intro G cj;by_cases e:G=k
     ·subst e
      intro d1 bu;rw[cz.out] at bu;cases bu
      rw[cN.out,cy.out,cx.out];exact bR.out
     ·exact cr.out G (by omega)
    obtain⟨bB,az⟩:=aY a4 (aH.trans (a.mono aH.size));clear a4 a P T an ar av ay aA aB aE aS aU aW M aH;go_wp2;go_roundw
    case rel=>exact⟨k+1,by omega,by go_num,bB,az⟩
    case measure=>simp[intOf];omega
   have dX:(!au (aP=J))=S:=by simp[a9]
   have bR:=R a9;clear a9;refine bW (fin:= ?z12) [B o (j:Int), aa S, aa S, O (D ⟨bl,bs,F⟩) L.length cp, B o (j:Int), ad (D ⟨bl,bs+j*6,F⟩),b2 aP,b2 J, aa S, aa S] ?hf bp (by kernel_rfl) rfl fun b a=> ?_;case hf=>simp only[aT,a6,bd,ba,bc];exact rfl
   have I:=R a;obtain⟨aA,aB,aE,aS,aU,aW,P,T,an,ar,av,ay⟩:=lb a aA aB aE aS aU aW P T an ar av ay;constructor
   ·iterate 10 refine⟨?_,fun K c=> ?_⟩
    ·trivial
    all_goals try (go_simp;exact c _ I.out;done)
   have bQ:=R (show ¬fp L C ms from fun h=>by
    have h1:=h.ok i k cC cD j cz.out;rw[cN.out,cy.out,cx.out] at h1;exact bR.out h1)
   have az:=R (ax cb.out (M.trans (a.mono M.size)));clear a M aH;go_wp2;go_ret;exact⟨cW (cO.out bQ.out).symm,az.out⟩
  obtain rfl:k=3:=by omega
  have a4:(∀j,j < i+1->i9 L ms j)/\∀j k,j < i+1->k < 3->fv L C ms j k:=by
   constructor
   ·intro j c2
    by_cases e:j=i
    ·subst e;exact eV.out
    ·exact co.out.1 j (by omega)
   intro j k c2 cj;by_cases e:j=i
   ·subst e;exact cr.out k cj
   ·exact co.out.2 j k (by omega) cj
  obtain⟨bB,az⟩:=aY a4 (cL.out.trans (cg.out.mono cL.out.size));clear a4 cg cr;go_wp2;go_roundw
  case rel=>exact⟨i+1,by omega,by go_num,bB,az⟩
  case measure=>simp[intOf];omega
 obtain rfl:i=L.length:=by omega
 obtain⟨dA,az⟩:=aY (eX.out ⟨b8,co.out.1,co.out.2⟩) (ax cb.out ch.out);clear co ch;go_wp2;go_ret;exact⟨cW dA.out.symm,az.out⟩
end
section
set_option maxRecDepth 100000
open Go.RowKit Go.Maps
variable {z:Int}{h:List Int}{i:Nat}
def h9(i:Nat)(h:List Int):List Int:=(h.take i).map (fun z=>-z)++h.drop i
theorem A0(h:List Int):h9 0 h=h:=by simp[h9]
theorem AX(h:List Int):h9 h.length h=h.map fun z=>-z:=by simp[h9]
theorem AY(aI:h[i]? =D z):(h9 i h)[i]? =D z:=by
 have al:=(bM.1 aI).1;unfold h9;rw[kK (by simp;omega)];simp only[gM,iU,so];rw[<-aI]
 congr 1
 omega
theorem AZ(aI:h[i]? =D z):(h9 i h).set i (-z)=h9 (i+1) h:=by
 obtain⟨al,e⟩:=bM.1 aI;unfold h9;rw[qq _ _ (by simp;omega)];simp only[gM,iU];rw[show i-min i h.length=0 by omega,ww al,bc,hT,aI,List.map_append,List.append_assoc];rfl
def dL(ms:List aR):List aR:=ms.map ek
def gH(L:List ah)(ms:List aR)(i:Nat):Prop:=bf (ek (ms.getD i zeroV))=S/\kH (dD (ek (ms.getD i zeroV)) (L.getD i el))=S
def qD(w:ac)(W H:Nat)(mask:List Int)(nm nc:Nat)(cs:List bw)(ms:List aR)(L:List ah)(sts:List aP)(v:ae)(Z:ac):Prop:=
 ∃G N E M I P J n cS,n=(d5 L (fun i=>dD (ek (ms.getD i zeroV)) (L.getD i el)) ((L.map (cy sts)).map fun z=>-z) L.length).length/\v= aq #[B o W, B o H, O G nm N, O E nc M, O I L.length P, O J n cS]/\Z.ownsRow w.heap.size 3 1 (O G nm N) nm (bF mask)/\Z.ownsRow w.heap.size 129 5 (O E nc M) nc (cr cs)/\Z.ownsRow w.heap.size 64 6 (O I L.length P) L.length (b5 (dL ms))/\dv Z w.heap.size (O J n cS) (d5 L (fun i=>dD (ek (ms.getD i zeroV)) (L.getD i el)) ((L.map (cy sts)).map fun z=>-z) L.length)
theorem r5{m:aR}(h:bf m=S):bf (ek m)=S:=by
 obtain⟨a,b,c,d,e,f⟩:=m;rw[vX];simp only[bf,cu] at h |-;refine⟨?_, ?_⟩;·rcases p1 h.1 with ⟨rfl,rfl,rfl,rfl⟩ | ⟨rfl,rfl,rfl,rfl⟩ | ⟨rfl,rfl,rfl,rfl⟩ | ⟨rfl,rfl,rfl,rfl⟩ | ⟨rfl,rfl,rfl,rfl⟩ | ⟨rfl,rfl,rfl,rfl⟩ | ⟨rfl,rfl,rfl,rfl⟩ | ⟨rfl,rfl,rfl,rfl⟩ <;> decide
 have ab:=h.2;simp only[cE,cJ,cu,decide_eq_true_eq] at ab |-;omega
theorem Df(W H:Nat)(Am Ac Ap As:Option Addr)(nm cm nc cc np cp ns cS:Nat)(mask:List Int)(cs:List bw)(ms:List aR)(sts:List aP)(L:List ah)(w:ac)(c8:eF w W H Am nm mask Ac nc cs)(hL:bG W mask=L)(hnd:L.Nodup)(bL:∀t ∈ L,eD t)(c7:L.length<=1000)(h0:0 < L.length)
  (cC:Rd w 6 Ap np (b5 ms)) (hst:en w As ns sts) (dt:ms.length=L.length) (dw:∀m ∈ ms,bf m=S) (hnm:nm*8<=140737488351232) (hnc:nc*40<=140737488351232) (hAm:Am=F->cm=0) (hAc:Ac=F->cc=0) (aK:∀z ∈ L.map (cy sts), -1<=z/\z<=1000):
  Calls aj 11 #[aq #[B o W, B o H, O Am nm cm, O Ac nc cc, O Ap np cp, O As ns cS]] w fun e Z=>Below w.heap.size w Z/\((¬(∀i,i < L.length->gH L ms i)/\∃v,v= aq #[B o 0, B o 0, O F 0 0, O F 0 0, O F 0 0, O F 0 0]/\e= .returned (.tuple #[v, aa Q]))∨((∀i,i < L.length->gH L ms i)/\∃v,e= .returned (.tuple #[v, aa S])/\qD w W H mask nm nc cs ms L sts v Z)):=by
 have dQ:=aW (aQ w (Y #[B o W, B o H, O Am nm cm, O Ac nc cc, O Ap np cp, O As ns cS] 29)) (Y #[B o 0, B o 0, O F 0 0, O F 0 0, O F 0 0, O F 0 0] 29);have l:=aQ (w.alloc (Y #[B o W, B o H, O Am nm cm, O Ac nc cc, O Ap np cp, O As ns cS] 29)) (Y #[B o 0, B o 0, O F 0 0, O F 0 0, O F 0 0, O F 0 0] 29);rw[World.size_alloc] at l;have a5:=aN (aV w (Y #[B o W, B o H, O Am nm cm, O Ac nc cc, O Ap np cp, O As ns cS] 29)) (Y #[B o 0, B o 0, O F 0 0, O F 0 0, O F 0 0, O F 0 0] 29);obtain⟨a0,ao,a2,aF,aH,aJ⟩:=cx dQ;have bE:=c8.below a5;have cZ:=lh W H Am Ac nm cm nc cc mask cs ((w.alloc (Y #[B o W, B o H, O Am nm cm, O Ac nc cc, O Ap np cp, O As ns cS] 29)).alloc (Y #[B o 0, B o 0, O F 0 0, O F 0 0, O F 0 0, O F 0 0] 29)) bE
 rw[hL] at cZ;unfold g5 at cZ;have dM:=hst.below a5;have cg:=fun(W':ac) (c9:Below ((w.alloc (Y #[B o W, B o H, O Am nm cm, O Ac nc cc, O Ap np cp, O As ns cS] 29)).alloc (Y #[B o 0, B o 0, O F 0 0, O F 0 0, O F 0 0, O F 0 0] 29)).heap.size ((w.alloc (Y #[B o W, B o H, O Am nm cm, O Ac nc cc, O Ap np cp, O As ns cS] 29)).alloc (Y #[B o 0, B o 0, O F 0 0, O F 0 0, O F 0 0, O F 0 0] 29)) W')=>t7 W H Am Ac Ap As nm cm nc cc np cp ns cS mask cs L sts W' (bE.below c9) hL c7 (dM.below c9);have hnp:np=ms.length:=by
  have:=cC.1;rw[l4] at this;omega
 obtain⟨bT,b6,b3,bn,d9,ed,cV,c2,aE,c0,bv,eb,ea,d1,dZ,bt⟩:=tL cZ bE (cC.below a5) a5 hL hnd bL hnp dt dw l hnm hnc hAm hAc h0;obtain⟨az,bJ⟩:=ai (L.map (cy sts));rw[<-bJ] at aK;have ev:=R aK;clear aK;rw[<-bJ] at cg;obtain⟨bs,bU⟩:=aY bJ cg;clear cZ cg c8 bE cC a5 hL hnd bL hnp dt dw dQ l hst dM hnm hnc hAm hAc h0 bJ;go_in
 go_wp2_with fail
 generalize (w.alloc (Y #[B o W, B o H, O Am nm cm, O Ac nc cc, O Ap np cp, O As ns cS] 29)).alloc (Y #[B o 0, B o 0, O F 0 0, O F 0 0, O F 0 0, O F 0 0] 29)=w0 at a0 ao a2 aF aH aJ bT bU b6 b3 bn bv |-;refine bT.out.mono ?_;rintro e bR ⟨v1,rfl,cz,af⟩;obtain⟨gt,dx,fb,eM,_,_,fg,_⟩:=dF cz bt.out;subst eM;replace a0:=V a0 af;replace ao:=V ao af;replace a2:=V a2 af;replace aF:=V aF af;replace aH:=V aH af;replace aJ:=V aJ af;have c6:=bU.out bR af;obtain⟨cU,bq,ep,cY,ei,bx⟩:=ft c6 (bn.out.trans (af.mono bn.out.size)) (b6.out.below af) (b3.out.below af) cz (aG bv.out af (am bv.out));clear cz af c6 bT bU b6 b3 bv bn
 go_wp2_with fail
 refine cU.out.mono ?_;rintro e an ⟨v2,rfl,cA,db⟩;obtain⟨s,bC,fa,eN,_,_,eI,_⟩:=dF cA bt.out;subst eN;obtain⟨bu,bV⟩:=aY cA db;clear db cA cU
 go_wp2_with fail
 have hsz2:=bV.out.size;obtain⟨e5,fq,eC,_,_⟩:=cY.out.2 (by have h1:=c2.out;have ab:=aE.out;have ag:=bt.out;omega);subst eC;have eK:np=L.length:=by rw[c2.out,aE.out]
 subst eK;have dl:s < an.heap.size:=(bu.out.lt s rfl).2;have e1:=R dl;have dH:Hid (an.ownsRow an.heap.size 64 6 (O F 0 0) 0 (b5 ((dL ms).take 0))):=R (World.ownsRow_nil _ _ _ _);have dm:Hid (an.ownsRow bR.heap.size 3 1 (O (D ⟨s,0,F⟩) L.length bC) L.length (bF (h9 0 az))):=R (by rw[A0];exact bu.out);have dJ:Hid (∀j,j < 0->gH L ms j):=R (fun j co=>by omega);clear dl;go_loopw [6,7] (fun x v wr=>∃(i:Nat) (T:ae),i<=L.length/\v= B o i/\T=x/\Hid (∀j,j < i->gH L ms j)/\Hid (wr.ownsRow an.heap.size 64 6 T i (b5 ((dL ms).take i)))/\Hid (wr.ownsRow bR.heap.size 3 1 (O (D ⟨s,0,F⟩) L.length bC) L.length (bF (h9 i az)))/\Hid (Below bR.heap.size an wr)) (fun _ v _=>L.length-(intOf v).toNat)
 case atStart=>exact⟨0,_,by omega,rfl,rfl,dJ,dH,dm,R aX⟩
 clear dH dm dJ;obtain⟨i,T,al,rfl,rfl,bP,av,hh,bg⟩:=hrel;obtain⟨eQ,rfl⟩:=ai wr;have y:=bV.out.trans bg.out;replace a0:=V a0 y;replace ao:=V ao y;replace a2:=V a2 y;replace aF:=V aF y;replace aH:=V aH y;replace aJ:=V aJ y;by_cases bh:i < L.length
 ·obtain⟨t,ht⟩:∃t,L[i]? =D t:=⟨_,bb bh⟩
  obtain⟨e6,fr,m,hA,bN,eG,fu,fv,fw,fx,fz,fA⟩:=Rd.mp (by rw[aE.out];exact cY.out.below y) (show i < ms.length by rw[aE.out];exact bh);cases hA
  obtain⟨aL,aO,aS⟩:=ey (bo ei.out y) ht;have r:=cV.out t (cH ht);have cw:=c0.out m (cH bN);have A:=r5 cw;obtain⟨z,aI⟩:∃z,az[i]? =D z:=⟨_,bb (by rw[bs.out,gM];exact bh)⟩;have aK:=ev.out z (cH aI);have c3:=R (AY aI);have bH:ms.getD i zeroV=m:=by rw[cf,bN];rfl
  have bI:L.getD i el=t:=by rw[cf,ht];rfl
  have bB:=fun W:ac=>sA m.1 m.2.1 m.2.2.1 m.2.2.2.1 m.2.2.2.2.1 m.2.2.2.2.2 (-1) 0 0 1 0 0 W (gA (hJ cw) (by omega)) (by constructor <;> omega)
  obtain⟨g,bj⟩:∃x,x=ek m:=⟨_,rfl⟩;have bB:∀W:ac,Calls aj 37 #[b2 m, aq #[B o (-1), B o 0, B o 0, B o 1, B o 0, B o 0]] W fun e Z=>e= .returned (b2 g)/\Below W.heap.size W Z:=by rw[bj];exact bB
  rw[<-bj] at A;have b9:=fun(W:ac)=>m3 g.1 g.2.1 g.2.2.1 g.2.2.2.1 g.2.2.2.2.1 g.2.2.2.2.2 t.1 t.2.1 t.2.2 W (gA (hJ A) (by omega)) (g0 A).1 (g0 A).2.1 (g0 A).2.2 (by have:=r.1;omega) (by have:=r.1;omega) (by have:=r.2.1;omega) (by have:=r.2.1;omega) r.2.2.1 r.2.2.2;obtain⟨ay,ci⟩:=ai (dD g t);rw[show h8 g.1 g.2.1 g.2.2.1 g.2.2.2.1 g.2.2.2.2.1 g.2.2.2.2.2 t.1 t.2.1 t.2.2=ay from ci.symm] at b9;have cb:=fun W:ac=>vm g W;rw[A] at cb;have cd:=fun W:ac=>vn ay.1 ay.2.1 ay.2.2 W;obtain⟨bl,cv⟩:=ai (eg ay.1 ay.2.1 ay.2.2);rw[<-cv] at cd;have dr:gH L ms i↔bl=S:=by
   unfold gH kH;rw[bH,bI,<-bj,<-ci,<-cv];exact⟨fun h=>h.2,fun h=>⟨A,h⟩⟩
  have bk:(dL ms).take (i+1)=(dL ms).take i++ [g]:=by
   rw[hT];unfold dL;rw[jr,bN,bj];rfl
  have dz:=AZ aI;obtain⟨cO,cQ,cR,cT,b4,eu,ef,e2⟩:=l1 bB b9 cb cd dr bk dz aK;obtain⟨bz,bA,ch,_,_⟩:=dd av.out;subst ch;have fi:(i:Int) < (L.length:Int):=by omega
  have fh:(0:Int)<=(i:Int):=by omega
  have fo:b7.wrap (-z)= -z:=ca _ (by omega);have d2:=R y;have eL:=bg.out.size;clear ht bN r cw A aI aK bH bI bB bj b9 ci cb cd cv dr bk dz y eG;have dO:=fy (Rd.dB hh.out) (j:=i) (u:= B o z) (by have:=c3.out;simpa[bF] using this)
  go_wp2_with fail
  go_wp2_with (go_at_call 37;refine aw (cO.out _) fun bS dc=> ?_;have cX:=R dc;clear dc)
  have dP:=aQ bS (Y #[B o g.1, B o g.2.1, B o g.2.2.1, B o g.2.2.2.1, B o g.2.2.2.2.1, B o g.2.2.2.2.2] 64);have c5:=aV bS (Y #[B o g.1, B o g.2.1, B o g.2.2.1, B o g.2.2.2.1, B o g.2.2.2.2.1, B o g.2.2.2.2.2] 64);have a8:=cX.out.trans (c5.mono cX.out.size);replace aL:=V aL a8;replace aO:=V aO a8;replace aS:=V aS a8;obtain⟨b0,b1,aC,aM,a3,a4⟩:=cx dP;obtain⟨bX,ew⟩:=aY a8 dO;obtain⟨fc,dj⟩:=ai (bS.heap.size);rw[<-dj] at b0 b1 aC aM a3 a4 |-;clear dP c5 a8 dO cO dj;generalize bS.alloc (Y #[B o g.1, B o g.2.1, B o g.2.2.1, B o g.2.2.2.1, B o g.2.2.2.2.1, B o g.2.2.2.2.2] 64)=dW at aL aO aS b0 b1 aC aM a3 a4 bX |-;refine bW (fin:= ?z1) [b2 g, aa S, aa Q, aa Q,b2 g, O (D ⟨gt,0,F⟩) L.length dx, B o i, ad (D ⟨gt,i*3,F⟩),bK t,bK ay, aa bl, aa (!bl), aa (!bl)] ?hf bp (by kernel_rfl) rfl fun a1 aD=> ?_
  case hf=>simp only[aT,a6,bd,ba,bc];exact rfl
  have et:=R aD;obtain⟨b0,b1,aC,aM,a3,a4,aL,aO,aS⟩:=jV aD b0 b1 aC aM a3 a4 aL aO aS;constructor
  ·iterate 13 refine⟨?_,fun K bD=> ?_⟩
   ·trivial
   all_goals try (go_simp;exact bD _ et.out;done)
   ·go_simp
    exact aw (cT.out a1) fun wc be=>bD _ (ax aD be)
   ·go_simp
    exact aw (cQ.out a1) fun wc be=>bD _ (ax aD be)
   go_simp;exact aw (cR.out a1) fun wc be=>bD _ (ax aD be)
  have cj:=bX.out.trans (aD.mono bX.out.size);have da:=d2.out.trans (cj.mono (Nat.le_trans bV.out.size eL));obtain⟨aU,cW⟩:=aY cj da;clear aD cj da aL aO aS cR cQ cT;cases bl
  ·have dC:¬∀i,i < L.length->gH L ms i:=fun h=>by have:=b4.out.1 (h i bh);cases this
   have l:=aG bx.out cW.out (am bx.out);obtain⟨eT,eU,eV,eW,eX,eY⟩:=cx l;have eZ:=br l;have e0:=am l;obtain⟨aB,eh,d6⟩:=cq l dC (bq.out.trans (cW.out.mono bq.out.size));clear l dC b0 b1 aC aM a3 a4
   go_wp2_with fail
   have bi:=kU aB.out (B o 0) (B o 0) (O F 0 0) (O F 0 0) (O F 0 0) (O F 0 0);have a9:=kT d6.out (Nat.le_succ w.heap.size) (B o 0) (B o 0) (O F 0 0) (O F 0 0) (O F 0 0) (O F 0 0);generalize ((((((a1.setCell ⟨w.heap.size+1,0,F⟩ (B o 0)).setCell ⟨w.heap.size+1,1,F⟩ (B o 0)).setCell ⟨w.heap.size+1,2,F⟩ (O F 0 0)).setCell ⟨w.heap.size+1,3,F⟩ (O F 0 0)).setCell ⟨w.heap.size+1,4,F⟩ (O F 0 0)).setCell ⟨w.heap.size+1,5,F⟩ (O F 0 0))=wF at bi a9 |-;obtain⟨cF,cG,cI,cK,cL,cM⟩:=cx bi;exact bodyPost_ret (v:= .tuple #[aq #[B o 0, B o 0, O F 0 0, O F 0 0, O F 0 0, O F 0 0], aa Q]) (by simp[results,Tryz.results11,go_sem,cF,cG,cI,cK,cL,cM]) rfl ⟨a9, .inl ⟨eh.out,_,rfl,rfl⟩⟩
  have dE:=b4.out.2 rfl;have dK:∀j,j < i+1->gH L ms j:=fun j co=>by
   rcases Nat.lt_or_ge j i with h | h
   ·exact bP.out j h
   obtain rfl:j=i:=by omega
   exact dE
  have dN:=V ew.out aU.out;have dp:=bo hh.out aU.out;have dG:=bo av.out aU.out;have fl:=aU.out.size;have dy:(sg (D ⟨s,0,F⟩) L.length bC).ownBlock≠(sg bz i bA).ownBlock:=fun e=>by
   have:=(av.out.lt s e.symm).1;have ab:=(bu.out.lt s rfl).2;omega
  have ff:s < an.heap.size:=(bu.out.lt s rfl).2;obtain⟨eS,rfl⟩:=ai a1;obtain⟨es,d8,eo,ee,e4⟩:=dY dK dp dG dy dN;have eH:an.heap.size<=eS.heap.size:=by omega
  clear dE dK dN dp dG dy bP av hh b4
  go_wp2_with (first
   | (at_builtin;go_loud (refine i0 Tryz.underlying26 mY rfl (by decide) (by decide) rfl (.tmp 41) (.tmp 43) rfl an.heap.size (O bz i bA) i (b5 ((dL ms).take i)) (b5 [g]) rfl eo.out eH 1 _ rfl rfl rfl (m1 _) (by omega) ?_);intro fs eR cB de di;obtain⟨dX,dk,eP,_,_⟩:=dd cB;subst eP;have ej:=R cB;have d4:=R de;have bZ:=R (d8.out.kept di.grown (.inr ee.out));have fp:=fy (Rd.dB bZ.out) (j:=i) (u:= B o z) (by have:=c3.out;simpa[bF] using this);obtain⟨e8,cl⟩:=im bZ.out s rfl;have fe:=br cl;have fj:=am cl;clear cB de di)
   | fail)
  have cD:=(bZ.out.stored i (B o (-z))).1;rw[show(bF (h9 i az)).set i (B o (-z))=bF (h9 (i+1) az) by rw[<-ef.out];simp[bF,List.map_set]] at cD;have bO:=ej.out;rw[show b5 ((dL ms).take i)++b5 [g]=b5 ((dL ms).take (i+1)) by rw[eu.out];simp[b5]] at bO;have dI:(eR.setCell ⟨s,i,F⟩ (B o (-z))).ownsRow an.heap.size 64 6 (O dX (i+1) dk) (i+1) (b5 ((dL ms).take (i+1))):=dg bO (fun k eJ e=>by have:=(bO.lt k eJ).1;omega) i _;have dh:=((bg.out.trans (aU.out.mono (by have:=bg.out.size;omega))).trans (d4.out.mono hsz2)).setCell (p:=⟨s,i,F⟩) eI (B o (-z));obtain⟨eq,em,d7⟩:=cq cD dI dh;have fm:b7.wrap ((i:Int)+1)=((i+1:Nat):Int):=by rw[ca _ (by omega)];omega
  clear cD bO dI dh cl;go_wp2;go_roundw
  case rel=>exact⟨i+1,_,by omega,by first | rfl | go_num,rfl,es,em,eq,d7⟩
  case measure=>simp[intOf];omega
 obtain rfl:i=L.length:=by omega
 have bk:(dL ms).take L.length=dL ms:=hU (by unfold dL;rw[gM,aE.out];exact ce);rw[bk] at av;have dA:h9 L.length az=az.map fun z=>-z:=by rw[<-AX,bs.out,gM]
 rw[dA] at hh;obtain⟨bz,bA,ch,_,_⟩:=dd av.out;subst ch;have du:∀(i:Nat) (m:aR) (t:ah),(dL ms)[i]? =D m->L[i]? =D t->∀W':ac,Calls aj 31 #[b2 m,bK t] W' fun e Z=>e= .returned (bK ((fun i=>dD (ek (ms.getD i zeroV)) (L.getD i el)) i))/\Below W'.heap.size W' Z:=by
  intro i m t ct ht W';unfold dL at ct;rw[jr,Option.map_eq_some_iff] at ct;obtain⟨aA,dq,rfl⟩:=ct;have A:=r5 (c0.out aA (cH dq));have r:=cV.out t (cH ht);have bH:ms.getD i zeroV=aA:=by rw[cf,dq];rfl
  have bI:L.getD i el=t:=by rw[cf,ht];rfl
  simp only[bH,bI];exact m3 (ek aA).1 (ek aA).2.1 (ek aA).2.2.1 (ek aA).2.2.2.1 (ek aA).2.2.2.2.1 (ek aA).2.2.2.2.2 t.1 t.2.1 t.2.2 W' (gA (hJ A) (by omega)) (g0 A).1 (g0 A).2.1 (g0 A).2.2 (by have:=r.1;omega) (by have:=r.1;omega) (by have:=r.2.1;omega) (by have:=r.2.1;omega) r.2.2.1 r.2.2.2
 have b8:=yU W H Am Ac bz (D ⟨s,0,F⟩) nm cm nc cc bA bC mask cs L (dL ms) (az.map fun z=>-z) (fun i=>dD (ek (ms.getD i zeroV)) (L.getD i el)) eQ (ep.out.below y) d9.out ed.out c7 (by simp[dL,aE.out]) (by rw[bs.out];simp) (Rd.dB av.out) (Rd.dB hh.out) du eb.out ea.out d1.out dZ.out (by obtain⟨fd,e7,e9,eE,_⟩:=dF av.out bt.out;injection eE with ap ak e3;intro e;rw[ap] at e;cases e);unfold g5 at b8;have l:=aG bx.out y (am bx.out);obtain⟨cP,c4,er,bY⟩:=df b8 l (fun j (co:j < L.length)=>bP.out j co) (bq.out.trans (y.mono bq.out.size));have fk:¬((L.length:Int) < (L.length:Int)):=by omega
 clear b8 l du av hh bP bg bk dA bh
 go_wp2_with fail
 refine cP.out.mono ?_;rintro e dW ⟨G,N,E,M,I,P,J,n,ar,hn,rfl,dR,dS,dT,dU,ck⟩;have l:=aG c4.out ck (am c4.out);obtain⟨eT,eU,eV,eW,eX,eY⟩:=cx l;have eZ:=br l;have e0:=am l;obtain⟨aB,ex,ez,eA,eB,ec,d3⟩:=kp l dR dS dT dU hn (bY.out.trans (ck.mono bY.out.size));clear l dR dS dT dU ck cP a0 ao a2 aF aH aJ hn
 go_wp2_with fail
 have bi:=kU aB.out (B o W) (B o H) (O G nm N) (O E nc M) (O I L.length P) (O J n ar);have aZ:=hM ex.out aB.out (by decide) (B o W) (B o H) (O G nm N) (O E nc M) (O I L.length P) (O J n ar);have bm:=hM ez.out aB.out (by decide) (B o W) (B o H) (O G nm N) (O E nc M) (O I L.length P) (O J n ar);have dV:=hM eA.out aB.out (by decide) (B o W) (B o H) (O G nm N) (O E nc M) (O I L.length P) (O J n ar);have cN:=eB.out.jh aB.out (by decide) (by decide) (B o W) (B o H) (O G nm N) (O E nc M) (O I L.length P) (O J n ar);have a9:=kT d3.out (Nat.le_succ w.heap.size) (B o W) (B o H) (O G nm N) (O E nc M) (O I L.length P) (O J n ar)
 generalize ((((((dW.setCell ⟨w.heap.size+1,0,F⟩ (B o W)).setCell ⟨w.heap.size+1,1,F⟩ (B o H)).setCell ⟨w.heap.size+1,2,F⟩ (O G nm N)).setCell ⟨w.heap.size+1,3,F⟩ (O E nc M)).setCell ⟨w.heap.size+1,4,F⟩ (O I L.length P)).setCell ⟨w.heap.size+1,5,F⟩ (O J n ar))=wF at bi aZ bm dV cN a9 |-;obtain⟨cF,cG,cI,cK,cL,cM⟩:=cx bi;have bQ:=bY.out.size;have c1:=ec.out;rw[bs.out] at c1 cN;exact bodyPost_ret (v:= .tuple #[aq #[B o W, B o H, O G nm N, O E nc M, O I L.length P, O J n ar], aa S]) (by simp[results,Tryz.results11,go_sem,cF,cG,cI,cK,cL,cM]) rfl ⟨a9, .inr ⟨er.out,_,rfl,G,N,E,M,I,P,J,n,ar,c1,rfl,dn aZ bQ,dn bm bQ,dn dV bQ,cN.mono bQ⟩⟩
end
section
open Go.RowKit Go.Sort Go.Shelf
def h3(N:Nat)(i:Fin (N+1)):ae:=encI i.val
theorem ya(N:Nat):OneCell (h3 N):=fun _=>rfl
theorem BG{N:Nat}(c:Nat->Nat->Int)(d:Array (Fin (N+1)))(h:SortedIn (ltOf fun a b:Fin (N+1)=>c a b) 0 d.size d):(d.toList.map (·.val)).Pairwise fun a b=>ltOf c b a=Q:=by
 rw[List.pairwise_map,List.pairwise_iff_getElem];intro i j al K ah;have h1:=h i j (Nat.zero_le _) ah (by simpa using K);have ap:d[i]! =d.toList[i]:=by rw[getElem!_pos d i (by simpa using al)];simp
 have ak:d[j]! =d.toList[j]:=by rw[getElem!_pos d j (by simpa using K)];simp
 rw[ap,ak] at h1;exact h1
theorem CT{N:Nat}{c:Nat->Nat->Int}(h:SWO (ltOf c)):SWO (ltOf fun a b:Fin (N+1)=>c a b):=
 ⟨fun x=>h.1 x.val,fun x y z=>h.2 x.val y.val z.val,fun x y z=>h.3 x.val y.val z.val⟩
theorem Cu(N cw:Nat)(E:Array ae)(c:Nat->Nat->Int)(V:SWO (ltOf c))(R:∀args w,(callFunc cw args).run aj w= .ok (.enter cw args) w)(g s n I:Nat)(l:List Nat)(w:ac)(hn:n=l.length)(ai:w.ownsRow I 3 1 (O (D ⟨g,0,F⟩) n s) n (di l))(aw:n<=1000000)(av:∀i ∈ l,i < N+1)(ab:∀size,CmpLays1 aj cw E (h3 N) (fun a b=>c a b) g 0 size w):
  Calls aj 61 #[O (D ⟨g,0,F⟩) n s, eO (.func cw) #[] E] w fun e Z=>
   e= .returned (.tuple #[])/\(∃eG:List Nat,eG.Perm l/\eG.Pairwise (fun a b=>ltOf c b a=Q)/\Z.ownsRow I 3 1 (O (D ⟨g,0,F⟩) n s) n (di eG))/\w.grownBy Z (D g):=by
  obtain⟨k,rfl⟩:∃k:List (Fin (N+1)),k.map (·.val)=l:=⟨l.pmap Fin.mk av,by rw[List.map_pmap];simp⟩;rw[gM] at hn;subst hn;rcases ai.2 with ⟨e,_⟩ | ⟨ar,ao,P,e,aK,G,cN,ct,ee,an⟩
  · cases e
  cases e
  have J:∀m:List (Fin (N+1)),di (m.map (·.val))=m.map (h3 N):=fun m=>by unfold di;rw[List.map_map];rfl
  have T:Holds (h3 N) w g 0 k.toArray:=rg G (by rw[<-J];simpa using an);have af:g < w.heap.size:=(Array.getElem?_eq_some_iff.1 G).1;have hc:=Any.slices_SortFunc Cv (h3 N) (ya N) (fun a b=>c a b) (CT V) cw E g 0 s k.toArray w R (ab _) T af (by simp;omega);simp only[List.size_toArray] at hc;refine hc.mono ?_;rintro e Z ⟨rfl,r,q,os,L,am,rfl⟩;have A:r.size=k.length:=by have:=L.1;simpa using this
  have M:r.toList.Perm k:=by
    have ag:=L.2.2;have ap:r.extract 0 k.length=r:=by rw[<-A];simp
    have ak:k.toArray.extract 0 k.length=k.toArray:=by simp
    rw[ap,ak] at ag;exact ag
  refine⟨rfl,⟨r.toList.map (·.val),M.map _,BG c r (by rw[A];exact am),by rw[v8,gM,M.length_eq,Nat.mul_one], .inr ⟨g,s,_,rfl,aK,rf (h3 N) r G,cN,ct,by simp[putCells,ee], ?_⟩⟩,o7 (h3 N) w g q os r⟩;rw[Nat.mul_one,<-A,J];exact rX (h3 N) P r (by rw[A,ee,Nat.mul_one];exact cN)
end
section
set_option maxRecDepth 100000
open Go.RowKit Go.Maps Go.Sort Go.Shelf
theorem yQ(N:Nat)(ar aA aF eD dD cw:Nat)(bI:Array ae)(ao:Nat->Nat->Int)(aS ct:ae)(bh:List ah)(aZ:List Nat)(w:ac)(cQ:SWO (ltOf ao))(cG:∀args w,(callFunc cw args).run aj w= .ok (.enter cw args) w)
  (cV:∀(W:ac) (g size:Nat),w.heap.size<=g->da w W aF ar->CmpLays1 aj cw bI (h3 N) (fun a b=>ao a b) g 0 size W) (cP:bh.length=N+1) (h0:0 < bh.length) (eM:bh.length<=1000) (aR:∀a ∈ bh,bj a.1/\bj a.2.1/\bj a.2.2)
  (s:dP w ar aA aS ct (O (D ⟨aF,0,F⟩) bh.length bh.length) eD) (ch:w.ownsRow dD 53 3 ct bh.length (bn bh)) (db:aZ.length=bh.length) (a4:w.heap[aF]? =D (Y (di aZ).toArray 3 (0,0))):
  Calls aj 22 #[ad (D ⟨ar,0,F⟩), eO (.func cw) #[] bI] w fun r Z=>r= .returned (.tuple #[])/\∃(n:Nat) (f:ah->Option ae) (G:ah->List Nat) (aW:List Nat),n<=bh.length/\dP Z ar aA aS ct (O (D ⟨aF,0,F⟩) bh.length bh.length) w.heap.size/\eT Z w.heap.size w.heap.size n f G/\(∀x,(f x).isSome=S↔x ∈ bh)/\(∀x,(G x).Perm (eY bh bh.length x))/\(∀x,(G x).Pairwise fun i j=>ltOf ao j i=Q)/\aW.length=bh.length/\Z.heap[aF]? =D (Y (di aW).toArray 3 (0,0))/\(∀(x:ah) (p j:Nat),(G x)[p]? =D j->aW[j]? =D p)/\da w Z aF ar:=by
 obtain⟨cD,eh,eJ,rfl,_,_,eR,ay⟩:=dF ch h0;have dA:=am (show w.heap[ar]? =_ from s);have b5:=am a4;have eB:ar≠aF:=fun e=>by have h1:w.heap[ar]? =_:=s;rw[e,a4] at h1;simp at h1
 have bU:cD≠aF:=fun e=>by rw[e,a4] at ay;simp at ay
 have bY:cD≠ar:=fun e=>by have h1:w.heap[ar]? =_:=s;rw[<-e,ay] at h1;simp at h1
 have er:=@run_makeMap aj;obtain⟨ee,eb,dX,dY,dL,bF,d2,dN,ea⟩:=jG s ch a4 db cV cP aR cG cQ;clear cP;have bS:kd w aA aS (O (D ⟨cD,0,F⟩) bh.length eh) (O (D ⟨aF,0,F⟩) bh.length bh.length) bh aZ ar aF w.heap.size 0 ((w.setCell ⟨ar,4,F⟩ (.map (D w.heap.size))).alloc (.map #[] 0)):=by
  have hsz:(w.setCell ⟨ar,4,F⟩ (.map (D w.heap.size))).heap.size=w.heap.size:=World.size_setCell _ _ _;have bZ:=aV (w.setCell ⟨ar,4,F⟩ (.map (D w.heap.size))) (.map #[] 0);have dp:dP (w.setCell ⟨ar,4,F⟩ (.map (D w.heap.size))) ar aA aS (O (D ⟨cD,0,F⟩) bh.length eh) (O (D ⟨aF,0,F⟩) bh.length bh.length) w.heap.size:=by
   have:=bq (show w.heap[ar]? =_ from ee.out) 4 (.map (D w.heap.size));unfold dP;simpa using this
  have dd:=eV dX.out (fun e=>eB e.symm) (p:=⟨ar,4,F⟩) (.map (D w.heap.size));have c6:da w (w.setCell ⟨ar,4,F⟩ (.map (D w.heap.size))) aF ar:=⟨rfl,rfl,rfl,Nat.le_of_eq hsz.symm,fun k _ _ ab=>Below.heap_setCell w ⟨ar,4,F⟩ _ k ab⟩;refine⟨dp.below bZ,aG dd bZ (am dd),⟨0,fun _=>F,ce, ?_⟩,c6.below bZ⟩;have:=eT.made (w.setCell ⟨ar,4,F⟩ (.map (D w.heap.size))) w.heap.size;rw[hsz] at this;exact this
 have bH:=R bS;have eH:=bS.cd.c2;have bC:=s.bC;have eu:=s.eu 4;clear bS;clear s ch a4 db cV aR cG cQ ay;go_in
 go_wp2_with fail
 clear eH bC eu er;generalize (w.setCell ⟨ar,4,F⟩ (.map (D w.heap.size))).alloc (.map #[] 0)=cv at bH |-;go_loopw [19] (fun v wr=>∃i:Nat,i<=bh.length/\v= .int o i/\Hid (kd w aA aS (O (D ⟨cD,0,F⟩) bh.length eh) (O (D ⟨aF,0,F⟩) bh.length bh.length) bh aZ ar aF w.heap.size i wr)) (fun v _=>bh.length-(intOf v).toNat)
 case atStart=>exact⟨0,by omega,rfl,bH⟩
 clear bH;obtain⟨i,al,rfl,A⟩:=hrel;by_cases bx:i < bh.length
 ·obtain⟨a,bw⟩:∃a,bh[i]? =D a:=⟨_,bb bx⟩
  have eX:(i:Int) < (bh.length:Int):=by omega
  have eW:(0:Int)<=(i:Int):=by omega
  obtain⟨co,cq,cr⟩:=ey eb.out bw;have co:=A.out.cb.cell co bU bY;have cq:=A.out.cb.cell cq bU bY;have cr:=A.out.cb.cell cr bU bY;have dm:=d2.out a (cH bw);obtain⟨dH,dU⟩:=aY bw dm;obtain⟨an,rfl⟩:=ai wr;have cT:=aV an (Y #[.int o a.1, .int o a.2.1, .int o a.2.2] 53);have cj:=aQ an (Y #[.int o a.1, .int o a.2.1, .int o a.2.2] 53);have bt:=R (A.out.below cT);have dy:=A.out.cb.size;clear bw dm A
  go_wp2_with fail
  obtain⟨aw,z1,ax⟩:=dl cj;have dV:=R cj;clear cj co cq cr cT;generalize an.alloc (Y #[.int o a.1, .int o a.2.1, .int o a.2.2] 53)=w7 at aw z1 ax dV bt |-;obtain⟨n,f,hn,aN⟩:=bt.out.map;have b4:=q9 bh i a;obtain⟨L,ci⟩:=ai (w7.drew);obtain⟨bg,bB⟩:=ai (L.alloc (Y #[.int o (i:Int)] 3));have bN:Below w7.heap.size w7 L:=by rw[ci];exact aX.drew
  have cW:Below L.heap.size L bg:=by rw[bB];exact aV L _
  have bL:Below w7.heap.size w7 bg:=bN.trans (cW.mono bN.size);have aO:=aN.below bL;have bT:=bt.out.below bL;have e2:=bT.cb.size;obtain⟨b6,bf,af,aC,a2,az,dw⟩:=aO.map.enter pi (by unfold maxLen;omega) (a:=a) dU.out;have aC:(Instr.mapEntry 60 (.map (D w.heap.size)) (bK a)).run aj bg= .ok (.tuple #[(f a).getD (O F 0 0),b6]) bf:=aC;have hval:=aO.val a;have hnm:=eN hval aO.map.is;have bA:=hval.kept a2 (.inr hnm);have c5:bf.heap[L.heap.size]? =D (Y #[.int o (i:Int)] 3 (0,0)):=by
   have h1:bg.heap[L.heap.size]? =D (Y #[.int o (i:Int)] 3 (0,0)):=by rw[bB];exact aQ L _
   refine(a2.block _ (am h1) (fun e=> ?_)).trans h1;obtain⟨eL,c,de⟩:=aO.map.is;rw[<-cn e,h1] at de;cases de
  obtain⟨aI,bP⟩:=ai ((f a).getD (O F 0 0));rw[<-bP] at aC bA hnm;obtain⟨G,bQ⟩:=ai (eY bh i a);rw[<-bQ] at bA b4;have ex:=a2.size;have dq:G.length+1<=2147483648:=by omega
  have ez:w.heap.size<=bf.heap.size:=by omega
  have P:=bt.out.cd.bC;obtain⟨d3,ef,d8,dQ,cB,d9,bo,dR,d7,dS,ec,ed,bF,dZ⟩:=yP aO bT aC a2 az dw bP bQ bA c5 bB ci hnm hn;clear hn aN ci bB bN cW bL aO bT aC a2 az dw hval hnm bA c5 bP bQ ex;refine ir (fin:= ?z1) [6,7,9,11] [[S,S,S,S,S,S,Q,Q,Q,Q,Q,Q], [S,S,S,S,S,Q,Q,Q,Q,Q,Q,Q], [Q,Q,Q,Q,Q,S,Q,Q,S,Q,S,Q], [Q,Q,Q,Q,Q,Q,Q,Q,Q,Q,S,Q], [Q,Q,Q,Q,Q,Q,Q,Q,Q,Q,Q,Q]] [[5], [3,4,2,1,0], [8,6,7,5,3,4,2,1,0], [3,10,9,2,7,8,6,1,4,5,0]] (fun x=> [ad (D ⟨ar,0,F⟩), ad (D ⟨ar,0,F⟩), ad (D ⟨ar,4,F⟩), .map (D w.heap.size),bK a, .int o (i:Int),(x 0),(x 1),aI,(x 2),b6,(x 3)]) (fun l x y=>match l with | 0=>Hid (y=L)/\y.cell? ⟨ar,4,F⟩=D (.map (D w.heap.size))/\y.cell? ⟨an.heap.size,0,F⟩=D (.int o a.1)/\y.cell? ⟨an.heap.size,1,F⟩=D (.int o a.2.1)/\y.cell? ⟨an.heap.size,2,F⟩=D (.int o a.2.2) | 1=>Hid (y=bg)/\Hid (x 0= O (D ⟨L.heap.size,0,F⟩) 1 1)/\y.cell? ⟨ar,4,F⟩=D (.map (D w.heap.size))/\y.cell? ⟨an.heap.size,0,F⟩=D (.int o a.1)/\y.cell? ⟨an.heap.size,1,F⟩=D (.int o a.2.1)/\y.cell? ⟨an.heap.size,2,F⟩=D (.int o a.2.2) | 2=>Hid (y=bf)/\Hid (x 0= O (D ⟨L.heap.size,0,F⟩) 1 1)/\Hid (x 1= .tuple #[aI,b6]) | 3=>Hid (x 1= .tuple #[aI,b6])/\Hid (y.ownsRow w.heap.size 3 1 (x 2) (G.length+1) (di G++ [.int o (i:Int)]))/\Hid (fm bf y aI (x 2)) | _=>Hid (kd w aA aS (O (D ⟨cD,0,F⟩) bh.length eh) (O (D ⟨aF,0,F⟩) bh.length bh.length) bh aZ ar aF w.heap.size (i+1) y)) ?hf (by kernel_rfl) (by kernel_rfl) (fun _=>rfl) (by kernel_rfl) ?hv ⟨ed.out▸R rfl,P,aw,z1,ax⟩ ?hA ?bi (fun x y hst=> ?he)
  case hf=>intro x;simp only[aT,a6,bd,ba,bc];exact rfl
  case hv=>
   intro x l t v h
   cases l with
   | zero=>cases h;rfl
   | succ l=>
    cases l with
    | zero=>cases h;rfl
    | succ l=>
     cases l with
     | zero=>cases h;rfl
     | succ l=>
      cases l with
      | zero=>cases h;rfl
      | succ l=>
       simp at h
  case hA=>
   intro l x y E hst;have E:l<=4:=E;rcases(show l=0∨l=1∨l=2∨l=3∨l=4 by omega) with rfl | rfl | rfl | rfl | rfl
   ·have T:=R hst
    obtain⟨hW,P,aw,z1,ax⟩:=hst;iterate 6 refine⟨?_,fun K I=> ?_⟩
    ·trivial
    all_goals try (go_simp;exact I _ T.out;done)
   ·have T:=R hst
    obtain⟨hW,a9,P,aw,z1,ax⟩:=hst;iterate 5 refine⟨?_,fun K I=> ?_⟩
    ·trivial
    all_goals try (go_simp;exact I _ T.out;done)
   ·have T:=R hst
    obtain⟨hW,a9,J⟩:=hst;iterate 3 refine⟨?_,fun K I=> ?_⟩
    ·trivial
    all_goals try (go_simp;exact I _ T.out;done)
    ·have J:=J.out
     have av:=I _ T.out;rw[J] at av |-;go_simp;exact av
    have J:=J.out;have av:=I _ T.out;rw[J] at av |-;go_simp;exact av
   ·have T:=R hst
    obtain⟨J,M,c3⟩:=hst;iterate 1 refine⟨?_,fun K I=> ?_⟩
    ·trivial
    have J:=J.out;have av:=I _ T.out;rw[J] at av |-;go_simp;exact av
   ·trivial
  case bi=>
   intro l t x y ht hst af az K I
   cases l with
   | zero=>
    cases ht;cases az
    obtain⟨hW,P,aw,z1,ax⟩:=hst;go_simp;exact I (O (D ⟨y.heap.size,0,F⟩) 1 1) _ ⟨R (by rw[hW.out];exact ec.out.symm),R (congrArg (fun W:ac=>sg (D ⟨W.heap.size,0,F⟩) 1 1) hW.out),aD P (Y #[.int o (i:Int)] 3),aD aw (Y #[.int o (i:Int)] 3),aD z1 (Y #[.int o (i:Int)] 3),aD ax (Y #[.int o (i:Int)] 3)⟩
   | succ l=>
    cases l with
    | zero=>
     cases ht;cases az
     obtain⟨hW,a9,P,aw,z1,ax⟩:=hst;have aC:=d8.out;rw[<-hW.out] at aC;go_simp;exact I (.tuple #[aI,b6]) _ ⟨R rfl,a9,R rfl⟩
    | succ l=>
     cases l with
     | zero=>
      cases ht;cases az
      obtain⟨hW,a9,J⟩:=hst;have M:=d7.out;have c4:=dS.out;have hsz:=ez;rw[<-hW.out] at M c4 hsz;refine nv Tryz.underlying22 mT rfl (by decide) (by decide) rfl _ _ rfl w.heap.size aI G.length (di G) [.int o (i:Int)] rfl M hsz 1 L.heap.size a9.out c4 rfl (fun u dx=>by rw[List.mem_singleton] at dx;subst dx;rfl) dq (fun eE eF h1 ab ag=>I eE eF ⟨J,R h1,R (by rw[<-hW.out];exact ag)⟩)
     | succ l=>
      cases l with
      | zero=>
       cases ht;cases az
       obtain⟨J,M,c3⟩:=hst;have a3:=c3.out;have es:=(a3.grown.block w.heap.size (am cB.out) (fun e=>bF.out e.symm)).trans cB.out;obtain⟨dC,ap,ak,eg⟩:=d9.out (x 2) y es;have ap:(Instr.entryStore 60 (.map (D w.heap.size)) b6 (x 2)).run aj y= .ok () dC:=ap;go_simp;have cY:=a3;rw[bo.out] at cY;have ev:y.ownsRow w.heap.size 3 1 (x 2) ((eY bh i a).length+1) (di (eY bh i a++ [i])):=by rw[<-dR.out,show di (G++ [i])=di G++ [.int o (i:Int)] by simp[di]];exact M.out
       exact I U dC (R (ef.out.rJ dZ.out d3.out dQ.out cY ev ak eg dH.out dA b5 ce))
      | succ l=>
       simp at ht
  have ei:=hst;clear P aw z1 ax;have e4:b7.wrap ((i:Int)+1)=((i+1:Nat):Int):=by rw[ca _ (by omega)];omega
  go_wp2;go_roundw
  case rel=>exact⟨i+1,by omega,by first | rfl | go_num,ei⟩
  case measure=>simp[intOf];omega
 obtain rfl:i=bh.length:=by omega
 obtain⟨be,f,dh,aN⟩:=A.out.map;obtain⟨bk,dn,cO,eC,aP⟩:=aN.map;have P:=A.out.cd.bC;have dy:=A.out.cb.size;obtain⟨bm,bp,d1,dW⟩:=df cO aN dh aP;clear cO aN dh aP;obtain⟨aH,rfl⟩:=ai wr
 go_wp2_with (first
  | (at_range;refine wpList_range_own _ rfl _ 60 rfl 53 22 iN.law Tryz.underlying60 _ w.heap.size be _ rfl dn ?_;intro cv dr V e1)
  | fail)
 go_frame
 have dg:Below aH.heap.size aH cv:=⟨V.os,V.tape,V.output,V.size,fun j E=>V.block j E (fun e=>by cases e)⟩;have cL:fo w aA aS (O (D ⟨cD,0,F⟩) bh.length eh) (O (D ⟨aF,0,F⟩) bh.length bh.length) bh ao ar aF w.heap.size f [] (0,0,0) 0 (eY bh bh.length) cv:=by
  refine⟨?_,⟨aZ,dY.out, ?_,fun x s=>(by simp at s),fun p j dp=>by omega⟩,fun x=>List.Perm.refl _,fun x s=>(by simp at s),fun t v hv=>⟨?_,(bp.out.row t v hv).2⟩,A.out.cb.grown V (fun b e=>by cases e)⟩;·exact(V.block _ (am A.out.cd) (fun e=>by cases e)).trans A.out.cd
  ·exact(V.block _ (am A.out.c8) (fun e=>by cases e)).trans A.out.c8
  ·exact nb (bp.out.row t v hv).1 dg ce
 obtain⟨cx,cz⟩:=aY cL (gq.start bm.out.keys);clear cL dn P
 go_loopw [41] (fun _ wr=>∃(left:Lit->Bool) (cE:Nat) (aE:List ah) (G:ah->List Nat) (z:ah),wr.ranges aj 53 iQ w.heap.size aH.heap.size be bk left cE/\Hid (gq gD bk (fun a=>(f a).isSome=S) left aE)/\Hid (fo w aA aS (O (D ⟨cD,0,F⟩) bh.length eh) (O (D ⟨aF,0,F⟩) bh.length bh.length) bh ao ar aF w.heap.size f aE z 0 G wr))
  (fun _ wr=>wr.rangeLeft w.heap.size aH.heap.size)
 case atStart=>exact⟨_,_, [],eY bh bh.length,(0,0,0),dr,cz,cx⟩
 clear cx cz V dg dr;obtain⟨left,cE,aE,G,z,a8,aM,aK⟩:=hrel;have P:=aK.out.cd.bC
 go_wp2_with (first
  | (at_next;refine wpList_next_ranges _ rfl _ rfl 53 iN.law iQ id id (fun key ck c6=>⟨key,rfl⟩) (fun v _ _=>⟨v,rfl⟩) w.heap.size aH.heap.size be _ _ _ rfl a8 ?_ ?_)
  | fail)
 ·-- nothing is left
  intro eP ep;go_wp2
  go_end0
  have aK:=aK.out;have aM:=aM.out;have bu:=bp.out;have aP:=dW.out;have hall:∀x,(f x).isSome=S->x ∈ aE:=fun x s=>aM.done ep (aP.2.2.1 x ((aP.2.1 x).1 s)) s;have dk:∀x,f x=F->G x= []:=fun x s=>by
   have h1:=aK.perm x;rw[bu.no x s] at h1;exact h1.eq_nil
  have bx:∀x,G x≠ []->x ∈ aE:=fun x s=>hall x (by cases hf:f x with | none=>exact absurd (dk x hf) s | some v=>rfl);obtain⟨aW,bD,aU,cl⟩:=aK.c8;refine⟨by first | rfl | simp,be,f,G,aW,d1.out,aK.cd,⟨⟨bk,a8.owns,bm.out,eC,aP⟩,dk,aK.row,bu.e6⟩,fun x=>⟨fun s=> ?_,fun s=> ?_⟩,aK.perm,fun x=> ?_,bD,aU,fun x p j E=>cl.1 x (bx x (fun e=>by rw[e] at E;simp at E)) p j E,aK.cb⟩
  ·obtain⟨v,hv⟩:=qv.1 s
   obtain⟨j,E⟩:=List.exists_mem_of_ne_nil _ (bu.row x v hv).2;exact cH (k3.1 E).2
  ·cases hf:f x with
   | some v=>rfl
   | none=>
    obtain⟨j,E⟩:=List.getElem?_of_mem s;have h1:j ∈ eY bh bh.length x:=k3.2 ⟨(bM.1 E).1,E⟩;rw[bu.no x hf] at h1;simp at h1
  by_cases e:G x= []
  ·rw[e];exact List.Pairwise.nil
  ·exact aK.mh x (bx x e)
 -- an entry has come
 intro x c ck e8 e9 dB cF c7 c9 hv _ bX bz dc a3 ew eQ;obtain⟨a,dz,aR,A,b8,bW⟩:=aM.out.bl bm.out.keys c7 c9 bX;have cN:=aM.out.step aR A b8 bW;obtain⟨v0,a0⟩:=qv.1 A;have em:c=v0:=by
  have h1:=bX (.map []);rw[bm.out.at_ a ck v0 aR bW a0] at h1;rw[<-hv] at h1;exact(DataW.held.inj h1).symm
 subst em;have aL:=(aK.out.walk a3 (rN a8) dy).wQ a;have b4:=q9 bh bh.length a;have cZ:=(aL.perm a).length_eq;obtain⟨M,dj⟩:=aL.row a c a0;obtain⟨q,a5⟩:=ai ((G a).length);rw[<-a5] at M cZ;have et:0 < q:=by rw[a5];exact List.length_pos_iff.2 dj
 have dq:q<=1000:=by omega
 obtain⟨g,cc,eK,ek,ej,el,b3,ay⟩:=dF M et;subst ek;have c0:g≠w.heap.size:=fun e=>eN M (BK bz) (by rw[e];rfl);have c1:g≠aH.heap.size:=fun e=>rN bz _ _ _ (by rw[<-e];exact ay);have cS:=Cu N cw bI ao ea.out dN.out g cc q w.heap.size (G a) dB a5 M (by omega) (fun i al=>by have h1:=(k3.1 ((aL.perm a).mem_iff.1 al)).1;have ab:=bF.out;omega) (fun size=>dL.out dB g size b3 aL.cb);have eA:x=bK a:=dz;have cX:∀t v,t≠a->f t=D v->v.ownBlock≠D g:=fun t v ht hv=>bp.out.e6 t a v _ ht hv a0;obtain⟨dJ,dM,bo,dO,cA,bG,dE,d6,d5,bs⟩:=rb aL cN a0 cX b8 a5 cS bz a8 (a7 c0 (a7 c1 (a7 b3 dc)));subst eA;clear aL cN a0 cX b8 aK aM M dz aR A bW c7 c9 bX hv a3 ew ay P dj b4 cZ ej el a5 cS bz c0 c1 b3 dc a8
 go_wp2_with (go_at_call 61;refine dE.out.mono ?_;rintro e e5 ⟨rfl,⟨eG,b9,dv,du⟩,b2⟩)
 have dt:=d6.out.kept b2 (fun e=>bs.out.1 (cn e).symm) (fun e=>bs.out.2.1 (cn e).symm);have bO:=dJ.out.mg cA.out (by rw[<-bG.out];exact bo.out) dO.out b9 (by rw[<-bG.out];exact du) b2 bs.out.2.2.1 dA b5;obtain⟨aJ,bR⟩:=ai (fun x=>if x=a then eG else G x);have bJ:aJ a=eG:=by rw[bR];simp
 have cI:(aJ a).length=q:=by rw[bJ,b9.length_eq,bG.out]
 have cJ:(aJ a).Pairwise fun i j=>ltOf ao j i=Q:=by rw[bJ];exact dv
 rw[<-bR] at bO;obtain⟨cC,cy,bE,dG⟩:=df dt bO cI cJ;clear dt bO bR bJ cI cJ b9 dv du b2;obtain⟨e7,rfl⟩:=ai wr;go_loopw [50] (fun v wr=>∃h:Nat,h<=q/\v= .int o h/\Hid (wr.ranges aj 53 iQ w.heap.size aH.heap.size be bk (fun z=>left z && !z.sameKey ck) cF)/\Hid (fo w aA aS (O (D ⟨cD,0,F⟩) bh.length eh) (O (D ⟨aF,0,F⟩) bh.length bh.length) bh ao ar aF w.heap.size f aE a h aJ wr)) (fun v _=>q-(intOf v).toNat)
 case atStart=>exact⟨0,by omega,rfl,cC,cy⟩
 clear cC cy;obtain⟨h,hh,rfl,bv,aK⟩:=hrel;by_cases en:h < q
 ·obtain⟨j,E⟩:∃j,(aJ a)[h]? =D j:=⟨_,bb (by rw[bE.out];exact en)⟩
  have cg:=(aK.out.row a _ bo.out).1;rw[bE.out] at cg;have a1:=uT cg E;have eo:=(k3.1 ((aK.out.perm a).mem_iff.1 (cH E))).1;obtain⟨aW,bD,aU,cl⟩:=aK.out.c8;have eI:=aK.out.cd.bV;have cU:=aB aU j;rw[List.getElem?_toArray,p7 (by rw[bD];exact eo)] at cU;have eu:=br aU j;have eq:=am aU;have eU:(h:Int) < (q:Int):=by omega
  have eS:(0:Int)<=(h:Int):=by omega
  have e0:(j:Int) < (bh.length:Int):=by omega
  have eZ:(0:Int)<=(j:Int):=by omega
  have dT:=R E;clear E cg bD aU cl
  go_wp2_with fail
  have cK:=aK.out.rr cA.out dT.out b5;have cR:=bv.out.kept (yz _ aF j (.int o (h:Int))) (fun e=>by have:=cn e;omega) (fun e=>by have:=cn e;omega);obtain⟨dI,d4⟩:=aY cK cR;have e3:b7.wrap ((h:Int)+1)=((h+1:Nat):Int):=by rw[ca _ (by omega)];omega
  clear cK cR aK bv a1 eI cU eu eq;go_roundw
  case rel=>exact⟨h+1,by omega,by first | rfl | go_num,d4,dI⟩
  case measure=>simp[intOf];omega
 obtain rfl:h=q:=by omega
 have cM:=fo.next (by rw[bE.out];exact aK.out) dG.out a;have dK:=R cM;clear cM aK
 go_wp2_with fail
 go_roundw
 case rel=>exact⟨_,cF,aE++ [a],aJ,a,bv.out,dM,dK⟩
 case measure=>rw[bv.out.left_eq,d5.out.left_eq];exact bs.out.2.2.2
end
section
open Go.RowKit Go.Sort Go.Shelf
theorem Dd(r l n c x y:Nat)(a b:Int)(w:ac)(an:x < n)(ao:y < n)(aK:w.cell? ⟨r,0,F⟩=D (O (D ⟨l,0,F⟩) n c))(L:w.cell? ⟨l,x,F⟩=D (B o a))(P:w.cell? ⟨l,y,F⟩=D (B o b)):
  Calls aj 23 #[B o ((x:Nat):Int), B o ((y:Nat):Int), ad (D ⟨r,0,F⟩)] w fun e Z=>e= .returned (B o (cG b a))/\∃q,Z=w.drewN q:=by
 have ay:((x:Nat):Int) < (n:Int):=by omega
 have aA:((y:Nat):Int) < (n:Int):=by omega
 have ax:(0:Int)<=(x:Int):=by omega
 have az:(0:Int)<=(y:Int):=by omega
 clear an ao;go_in;go_upto_region 1 with fail
 refine dR (fin:= ?z1) [O (D ⟨l,0,F⟩) n c, B o ((y:Nat):Int), ad (D ⟨l,y,F⟩), B o b, O (D ⟨l,0,F⟩) n c, B o ((x:Nat):Int), ad (D ⟨l,x,F⟩), B o a, B o (cG b a), B o (cG b a)] (fun s=>s.cell? ⟨r,0,F⟩=D (O (D ⟨l,0,F⟩) n c)/\s.cell? ⟨l,x,F⟩=D (B o a)/\s.cell? ⟨l,y,F⟩=D (B o b)/\∃q,s=w.drewN q) ?hf bp (by kernel_rfl) rfl ⟨aK,L,P,1,rfl⟩ fun s hst=> ?_;case hf=>simp only[aT,a6,bd,ba,bc];exact rfl
 have G:=R hst;obtain⟨aK,L,P,ak⟩:=hst;constructor
 ·iterate 10 refine⟨?_,fun K J=> ?_⟩
  ·trivial
  all_goals try (go_simp;exact J _ G.out;done)
  go_simp;exact aw (lI b a s) fun wc ah=>J _ (by subst ah;exact G.out)
 go_wp2;go_ret;exact⟨rfl,ak⟩
theorem De(N r l c:Nat)(k:List Int)(w W:ac)(aF ar g size:Nat)(av:k.length=N+1)(aK:w.cell? ⟨r,0,F⟩=D (O (D ⟨l,0,F⟩) (N+1) c))(V:∀j z,k[j]? =D z->w.cell? ⟨l,j,F⟩=D (B o z))(E:r < w.heap.size/\r≠aF/\r≠ar)(A:l < w.heap.size/\l≠aF/\l≠ar)(ap:w.heap.size<=g)(T:da w W aF ar):
  CmpLays1 aj 23 #[ad (D ⟨r,0,F⟩)] (h3 N) (fun i j=>cG (k.getD j.val 0) (k.getD i.val 0)) g 0 size W:=by
 refine CmpReads.lays (fun m os I _ x y=> ?_);have ai:=o7 (h3 N) W g m os I;have hsz:=T.size;have hc:∀(b af:Nat) (v:ae),b < w.heap.size->b≠aF->b≠ar->w.cell? ⟨b,af,F⟩=D v->(sortWorld (h3 N) W g 0 m I os).cell? ⟨b,af,F⟩=D v:=fun b af v h1 ab ag h=>by
  have hW:=T.cell h ab ag;rw[<-hW];exact World.cell?_of_block (ai.block b (by omega) (fun e=>by have:=cn e;omega))
 have M:∀i:Fin (N+1),k[i.val]? =D (k.getD i.val 0):=fun i=>by
  have al:i.val < k.length:=by rw[av];exact i.isLt
  rw[cf,bb al];rfl
 have am:=Dd r l (N+1) c x.val y.val (k.getD x.val 0) (k.getD y.val 0) _ x.isLt y.isLt (hc r 0 _ E.1 E.2.1 E.2.2 aK) (hc l x.val _ A.1 A.2.1 A.2.2 (V _ _ (M x))) (hc l y.val _ A.1 A.2.1 A.2.2 (V _ _ (M y)));exact am
theorem pY(k:List Int)(x y:Nat):ltOf (fun i j:Nat=>cG (k.getD j 0) (k.getD i 0)) x y=au (k.getD y 0 < k.getD x 0):=by
 unfold ltOf cG;refine decide_eq_decide.2 ?_;show(if k.getD y 0 < k.getD x 0 then(-1:Int) else if k.getD x 0 < k.getD y 0 then 1 else 0) < 0↔k.getD y 0 < k.getD x 0
 (repeat' split) <;> omega
theorem CU(k:List Int):SWO (ltOf fun i j:Nat=>cG (k.getD j 0) (k.getD i 0)):=
 ⟨fun x=>by rw[pY];simp,fun x y z h1 ab=>by rw[pY] at*;simp at*;omega,fun x y z h1 ab=>by rw[pY] at*;simp at*;omega⟩
theorem C3{k:List Int}{i j:Nat}(h:ltOf (fun i j:Nat=>cG (k.getD j 0) (k.getD i 0)) j i=Q): -(k.getD i 0)<= -(k.getD j 0):=by
 rw[pY] at h;have:=of_decide_eq_false h;omega
end
section
open Go.RowKit Go.Maps Go.Sort
def ef(i:Nat)(ms:List aR):List aR:=(dL ms).take i++ms.drop i
theorem C2(ms:List aR):ef 0 ms=ms:=by simp[ef]
theorem kG(i:Nat)(ms:List aR):(ef i ms).length=ms.length:=by simp[ef,dL];omega
theorem rZ(ms:List aR):ef ms.length ms=dL ms:=by
 unfold ef dL;rw[List.drop_length,List.append_nil,hU (by simp)]
theorem C0{i:Nat}{ms:List aR}{m:aR}(h:ms[i]? =D m):(ef i ms)[i]? =D m:=by
 have al:=(bM.1 h).1;unfold ef;rw[kK (by simp[dL];omega)];simp only[dL,iU,gM,so];rw[<-h]
 congr 1
 omega
theorem C1{i:Nat}{ms:List aR}{m:aR}(h:ms[i]? =D m):(ef i ms).set i (ek m)=ef (i+1) ms:=by
 obtain⟨al,e⟩:=bM.1 h;unfold ef dL;rw[qq _ _ (by simp;omega)];simp only[iU,gM];rw[show i-min i ms.length=0 by omega,ww al,bc,hT,jr,h,List.append_assoc];rfl
theorem pX{i j:Nat}{ms:List aR}(g:j < ms.length):(ef i ms).getD j zeroV=if j < i then ek (ms.getD j zeroV) else ms.getD j zeroV:=by
 rw[cf,cf];unfold ef dL;split
 ·rw[List.getElem?_append_left (by simp;omega),List.getElem?_take_of_lt (by assumption),jr,bb g]
  rfl
 rw[kK (by simp;omega)];simp only[iU,gM,so];rw[show i+(j-min i ms.length)=j by omega]
theorem wV{L:List ah}{ms:List aR}{i:Nat}{m:aR}{t:ah}(av:ms.length=L.length)(ht:L[i]? =D t)(h:ms[i]? =D m):(d6 L (ef i ms)).set i (dD (ek m) t)=d6 L (ef (i+1) ms):=by
 obtain⟨al,e⟩:=bM.1 h;apply List.ext_getElem (by simp[d6])
 intro j h1 ab;rw[jA] at ab;simp only[d6,List.getElem_set,List.getElem_map,List.getElem_range];unfold bA;rw[pX (by omega),pX (by omega)];by_cases M:i=j
 ·subst M
  rw[if_pos rfl,if_pos (by omega),cf,h,cf,ht];rfl
 rw[if_neg M];by_cases g:j < i
 ·rw[if_pos g,if_pos (by omega)]
 ·rw[if_neg g,if_neg (by omega)]
section
variable {w l:ac} {a b:Nat}
theorem da.me(h:da w l a b)(i:Nat)(v:ae):da w (l.setCell ⟨b,i,F⟩ v) a b:=
 ⟨h.os,h.tape,h.output,by simpa using h.size,fun k c h1 ab=>(Below.heap_setCell l ⟨b,i,F⟩ v k ab).trans (h.bT k c h1 ab)⟩
theorem da.ji(h:da w l a b)(i:Nat)(m:aR):da w (ji l a i m) a b:=
 (((((h.set _ _).set _ _).set _ _).set _ _).set _ _).set _ _
theorem da.jj(h:da w l a b)(i:Nat)(t:ah):da w (jj l b i t) a b:=
 ((h.me _ _).me _ _).me _ _
end
theorem gP.fX{E:Nat}{q:ho}{L:List ah}{ms:List aR}{bh:List ah}{r:List Nat}{aU:aO->Option Int}{w Z:ac}(h:gP E q L ms bh r aU w)(c:da w Z q.aF q.ar):eE Z q.aA q.bz q.bg q.W q.H q.aS q.bD (O (D ⟨q.gt,0,F⟩) L.length q.dx) L q.dc q.ro aU/\Z.ownsRow E 53 3 (O (D ⟨q.gt,0,F⟩) L.length q.dx) L.length (bn L)/\Z.ownsRow E 64 6 (O (D ⟨q.bN,0,F⟩) L.length q.cm) L.length (b5 ms):=by
 have s:w.heap[q.ar]? =_:=h.cd;have ai:q.aA≠q.aF:=fun e=>by have h1:=h.cj.bT;rw[e,h.c8] at h1;simp at h1
 have ak:q.aA≠q.ar:=fun e=>by have h1:=h.cj.bT;rw[e,s] at h1;simp at h1
 obtain⟨_,_,y⟩:=h.cj.num.is;obtain⟨_,_,A⟩:=h.cj.d9.is;have am:q.bz≠q.aF:=fun e=>by rw[e,h.c8] at y;simp at y
 have an:q.bz≠q.ar:=fun e=>by rw[e,s] at y;simp at y
 have ao:q.bg≠q.aF:=fun e=>by rw[e,h.c8] at A;simp at A
 have n6:q.bg≠q.ar:=fun e=>by rw[e,s] at A;simp at A
 exact⟨⟨c.il h.cj.bT ai ak,h.cj.num.heap (c.bT _ h.cj.num.lt am an),h.cj.d9.heap (c.bT _ h.cj.d9.lt ao n6)⟩,jM h.ay c (dy h.ay h.c8 (by decide)) (dy h.ay s (by decide)),jM h.map c (dy h.map h.c8 (by decide)) (dy h.map s (by decide))⟩
theorem Di{L:List ah}{ms:List aR}{sts:List aP}{C:aO->Bool}{r:List Nat}{G:ah->List Nat}{aE:List ah}(hnd:L.Nodup)(bL:∀t ∈ L,eD t)(I:fp L C ms)(P:eo L ms sts)(av:r.map (fun z=>((z:Nat):Int))=L.map (cy sts))
  (af:aE.Nodup) (T:∀x,x ∈ aE↔x ∈ d6 L (dL ms)) (N:∀x,(G x).Perm (eY (d6 L (dL ms)) (d6 L (dL ms)).length x)) (ag:∀x,(G x).Pairwise fun i j=>ltOf (fun i j:Nat=>cG ((r.map fun z=>((z:Nat):Int)).getD j 0) ((r.map fun z=>((z:Nat):Int)).getD i 0)) j i=Q):
  fb L G (gF aE)=d5 L (fun i=>dD (ek (ms.getD i zeroV)) (L.getD i el)) ((L.map (cy sts)).map fun z=>-z) L.length:=by
 have aI:∀i,((L.map (cy sts)).map fun z=>-z).getD i 0= -((r.map fun z=>((z:Nat):Int)).getD i 0):=fun i=>by
  rw[av,cf,cf,jr];cases (L.map (cy sts))[i]? <;> rfl
 have R:∀i,i < L.length->bA L (dL ms) i=dD (ek (ms.getD i zeroV)) (L.getD i el):=fun i al=>by
  unfold bA;rw[<-rZ,pX (by rw[I.len];exact al),if_pos (by rw[I.len];exact al)]
 refine yT hnd (bh:=d6 L (dL ms)) ?_ (vF af) (fun x=>((mi aE).mem_iff).trans (T x)) N (fun x=>(ag x).imp fun {i j} h=> ?_) fun i j al g V e=> ?_
 ·unfold d6
  exact List.map_congr_left fun i al=>R i (List.mem_range.1 al)
 ·rw[aI,aI]
  exact C3 h
 have key:∀k,k < L.length->dD (ek (ms.getD k zeroV)) (L.getD k el)=k2 (bA L ms k):=fun k c=>by
  have J:=g0 (I.may k c).1;have ht:L.getD k el ∈ L:=by rw[cf,bb c];exact List.getElem_mem c
  exact uv J.1 J.2.1 J.2.2 (bL _ ht).2.2
 rw[key i al,key j g] at e;have K:=oa hnd P (bb al) (bb g) V (tw e);rw[aI,aI,av];unfold be at K;intro h;apply K
 simp only[Int.toNat_natCast];omega
end
end Go.Proofs.YteaeipgfjmnecaaGreatDoor

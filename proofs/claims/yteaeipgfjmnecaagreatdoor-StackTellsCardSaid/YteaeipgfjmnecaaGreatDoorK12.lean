/- Lemmas; each says its own conditions. -/
import Derived.Test.YteaeipgfjmnecaaGreatDoorK11
open And renaming intro->a7
open Array renaming getD_eq_getD_getElem?->li,getElem?_eq_some_iff->hb,getElem?_replicate->mq,replicate->eA
open Bool renaming and_eq_true->cu,eq_false_or_eq_true->jo,false->Q,or_eq_true->gJ,true->S
open Decidable renaming decide->au
open Go renaming Oper->de,Value->ae,World->ac,bodyPost_ret->cT,getD_set_true->ix,heap_alloc_new->aQ,undef->U,wpOp_step->cB
open Go.IntKind renaming i64->b7
open Go.IntWalk renaming i64_in->ca
open Go.Region renaming ready->fS,waitsFor->eB,wanted->eP
open Int renaming mul_tdiv_cancel_left->wv
open Go.IntKind renaming i64->o
open List renaming all_eq_true->dM,contains_iff_mem->j3,exists_mem_of_ne_nil->qj,getD_eq_getElem?_getD->cf,getElem?_append_left->hS,getElem?_append_right->kK,getElem?_cons_succ->cO,getElem?_cons_zero->cU,getElem?_eq_getElem->bb,getElem?_eq_some_iff->bM,getElem?_of_mem->fz,getElem?_set_ne->fI,getElem?_set_self->e4,getElem?_toArray->cP,length_append->gL,length_cons->fJ,length_drop->ql,length_eq_zero_iff->gm,length_take->iU,mem_cons->dC,mem_cons_of_mem->iV,mem_cons_self->hi,mem_map->j6,mem_of_getElem?->cH,mem_range->fl,mem_singleton->iy,pairwise_cons->j8,pairwise_singleton->qp,setIfInBounds_toArray->bd,set_append_right->qq,set_cons_succ->ba,takeWhile_append_dropWhile->oH,takeWhile_cons->nK,takeWhile_cons_of_neg->wC,takeWhile_cons_of_pos->wD,take_add_one->hT,take_append_drop->qr,toList_toArray->sq
open Nat renaming le_succ->iW,sub_self->mz,zero_add->fT
open Ne renaming symm->gp
open Go.Obj renaming cells->Y
open Option renaming map_some->DI,none->F,some->D
open Option.some renaming inj->cn,injEq->mA
open Go.Proofs.Tryz renaming prog->aj
open Go.Value renaming agg->aq,bool->aa,int->B,pointer->ad,slice->O
namespace Go.Proofs.YteaeipgfjmnecaaGreatDoor
set_option linter.unusedSimpArgs false
set_option linter.unusedVariables false
set_option maxHeartbeats 12800000
section
set_option maxRecDepth 100000
open Go.RowKit Go.Maps
variable {L:Array Bool}{bR bH bt bQ bI b4 E P V a6 af ah a b c d e f x y:Int}{N z l s g bN bO:Nat}{cb cd cg:Obj}{ar ay aA aB aD aE aF aH aI aJ aK aM aO aP aR aS aT aU:ae}{w be:ac}{an:ac->Prop}
def boxes(w:ac)(v c x y k:Int):ac:=(w.alloc (Y #[B o v, B o c] 67)).alloc (Y #[B o x, B o y, B o k] 53)
open Go.RowKit
structure kP(w:ac)(bN bO g N:Nat)(cd cg cb:Obj)(Z:ac):Prop where
 m:Z.heap[bN]? =D cd
 r:Z.heap[bO]? =D cg
 c:Z.heap[g]? =D cb
 bel:Below w.heap.size w Z
 oj:N<=Z.heap.size
theorem kP.below{es:ac}(h:kP w bN bO g N cd cg cb be)(a4:Below be.heap.size be es):kP w bN bO g N cd cg cb es:=
 ⟨aG h.m a4 (am h.m),aG h.r a4 (am h.r),aG h.c a4 (am h.c),ax h.bel a4,Nat.le_trans h.oj a4.size⟩
theorem kP.me(h:kP w bN bO g N cd cg cb be)(fF:bN < N)(J:bO < N)(cq:g < N)(fH:w.heap.size<=N){b:Nat}(a4:N<=b)(u v:ae):kP w bN bO g N cd cg cb ((be.setCell ⟨b,0,F⟩ u).setCell ⟨b,1,F⟩ v):=
 ⟨eM h.m (by omega) _ _,eM h.r (by omega) _ _,eM h.c (by omega) _ _,mf h.bel _ (by omega) _ _,by simpa[World.size_setCell] using h.oj⟩
structure cQ(an:ac->Prop)(N g:Nat)(a b c d e f x y P af V ah bR bQ bH bI bt b4:Int)(L:Array Bool)(w:ac)(aS aT aU ar ay aA aB aD aE aF aH aI aJ aK aM aO aP aR:ae)(z l s:Nat):Prop where
 aL:L.size=21
 bg:an w
 p0:L.getD 0 Q=S->ar= aq #[B o a, B o b, B o c, B o d, B o e, B o f]
 cz:L.getD 1 Q=S->ay= O (D ⟨g,0,F⟩) 3 3
 b9:L.getD 2 Q=S->aA= ad (D ⟨g,0,F⟩)
 dZ:L.getD 3 Q=S->aB=bu (2*x+1) (2*y+1)
 dO:L.getD 4 Q=S->aD=bu bR bQ
 eJ:L.getD 5 Q=S->aE= aq #[B o a, B o b, B o c, B o d, B o e, B o f]
 fw:L.getD 6 Q=S->aF= O (D ⟨g,0,F⟩) 3 3
 kz:L.getD 7 Q=S->aH= ad (D ⟨g,2,F⟩)
 kA:L.getD 8 Q=S->aI=bu P af
 kB:L.getD 9 Q=S->aJ=bu bH bI
 ku:L.getD 10 Q=S->aK= aq #[B o a, B o b, B o c, B o d, B o e, B o f]
 kv:L.getD 11 Q=S->aM= O (D ⟨g,0,F⟩) 3 3
 uX:L.getD 12 Q=S->aO= ad (D ⟨g,4,F⟩)
 uY:L.getD 13 Q=S->aP=bu V ah
 uZ:L.getD 14 Q=S->aR=bu bt b4
 jN:L.getD 15 Q=S->aS= ad (D ⟨z,0,F⟩)/\N<=z/\∃u v:Int,w.heap[z]? =D (Y #[B o u, B o v] 40 (0,0))
 jO:L.getD 16 Q=S->aT= ad (D ⟨l,0,F⟩)/\N<=l/\∃u v:Int,w.heap[l]? =D (Y #[B o u, B o v] 40 (0,0))
 jP:L.getD 17 Q=S->aU= ad (D ⟨s,0,F⟩)/\N<=s/\∃u v:Int,w.heap[s]? =D (Y #[B o u, B o v] 40 (0,0))
 q0:L.getD 15 Q=S->L.getD 16 Q=S->z≠l
 aZ:L.getD 15 Q=S->L.getD 17 Q=S->z≠s
 bm:L.getD 16 Q=S->L.getD 17 Q=S->l≠s
 kw:L.getD 18 Q=S->L.getD 15 Q=S/\w.heap[z]? =D (Y #[B o bR, B o bQ] 40 (0,0))
 kx:L.getD 19 Q=S->L.getD 16 Q=S/\w.heap[l]? =D (Y #[B o bH, B o bI] 40 (0,0))
 ky:L.getD 20 Q=S->L.getD 17 Q=S/\w.heap[s]? =D (Y #[B o bt, B o b4] 40 (0,0))
theorem cQ.below{Z:ac}(h:cQ an N g a b c d e f x y P af V ah bR bQ bH bI bt b4 L w aS aT aU ar ay aA aB aD aE aF aH aI aJ aK aM aO aP aR z l s)(a4:Below w.heap.size w Z)(a9:an Z):
  cQ an N g a b c d e f x y P af V ah bR bQ bH bI bt b4 L Z aS aT aU ar ay aA aB aD aE aF aH aI aJ aK aM aO aP aR z l s:=by
 refine⟨h.aL,a9,h.p0,h.cz,h.b9,h.dZ,h.dO,h.eJ,h.fw,h.kz,h.kA,h.kB,h.ku,h.kv,h.uX,h.uY,h.uZ, ?_, ?_, ?_,h.q0,h.aZ,h.bm, ?_, ?_, ?_⟩
 ·intro av
  obtain⟨h1,ab,u,v,ag⟩:=h.jN av;exact⟨h1,ab,u,v,aG ag a4 (am ag)⟩
 ·intro av
  obtain⟨h1,ab,u,v,ag⟩:=h.jO av;exact⟨h1,ab,u,v,aG ag a4 (am ag)⟩
 ·intro av
  obtain⟨h1,ab,u,v,ag⟩:=h.jP av;exact⟨h1,ab,u,v,aG ag a4 (am ag)⟩
 ·intro av
  obtain⟨h1,ag⟩:=h.kw av;exact⟨h1,aG ag a4 (am ag)⟩
 ·intro av
  obtain⟨h1,ag⟩:=h.kx av;exact⟨h1,aG ag a4 (am ag)⟩
 intro av;obtain⟨h1,ag⟩:=h.ky av;exact⟨h1,aG ag a4 (am ag)⟩
theorem gX{i j:Nat}(h:L.getD j Q=S):(L.setIfInBounds i S).getD j Q=S:=ix h
theorem cQ.hH(h:cQ an N g a b c d e f x y P af V ah bR bQ bH bI bt b4 L w aS aT aU ar ay aA aB aD aE aF aH aI aJ aK aM aO aP aR z l s):
  (∀v,v= aq #[B o a, B o b, B o c, B o d, B o e, B o f]->cQ an N g a b c d e f x y P af V ah bR bQ bH bI bt b4 (L.setIfInBounds 0 S) w aS aT aU v ay aA aB aD aE aF aH aI aJ aK aM aO aP aR z l s)/\
  (∀v,v= O (D ⟨g,0,F⟩) 3 3->cQ an N g a b c d e f x y P af V ah bR bQ bH bI bt b4 (L.setIfInBounds 1 S) w aS aT aU ar v aA aB aD aE aF aH aI aJ aK aM aO aP aR z l s)/\
  (∀v,v= ad (D ⟨g,0,F⟩)->cQ an N g a b c d e f x y P af V ah bR bQ bH bI bt b4 (L.setIfInBounds 2 S) w aS aT aU ar ay v aB aD aE aF aH aI aJ aK aM aO aP aR z l s)/\
  (∀v,v=bu (2*x+1) (2*y+1)->cQ an N g a b c d e f x y P af V ah bR bQ bH bI bt b4 (L.setIfInBounds 3 S) w aS aT aU ar ay aA v aD aE aF aH aI aJ aK aM aO aP aR z l s)/\
  (∀v,v=bu bR bQ->cQ an N g a b c d e f x y P af V ah bR bQ bH bI bt b4 (L.setIfInBounds 4 S) w aS aT aU ar ay aA aB v aE aF aH aI aJ aK aM aO aP aR z l s)/\
  (∀v,v= aq #[B o a, B o b, B o c, B o d, B o e, B o f]->cQ an N g a b c d e f x y P af V ah bR bQ bH bI bt b4 (L.setIfInBounds 5 S) w aS aT aU ar ay aA aB aD v aF aH aI aJ aK aM aO aP aR z l s)/\
  (∀v,v= O (D ⟨g,0,F⟩) 3 3->cQ an N g a b c d e f x y P af V ah bR bQ bH bI bt b4 (L.setIfInBounds 6 S) w aS aT aU ar ay aA aB aD aE v aH aI aJ aK aM aO aP aR z l s)/\
  (∀v,v= ad (D ⟨g,2,F⟩)->cQ an N g a b c d e f x y P af V ah bR bQ bH bI bt b4 (L.setIfInBounds 7 S) w aS aT aU ar ay aA aB aD aE aF v aI aJ aK aM aO aP aR z l s)/\
  (∀v,v=bu P af->cQ an N g a b c d e f x y P af V ah bR bQ bH bI bt b4 (L.setIfInBounds 8 S) w aS aT aU ar ay aA aB aD aE aF aH v aJ aK aM aO aP aR z l s)/\
  (∀v,v=bu bH bI->cQ an N g a b c d e f x y P af V ah bR bQ bH bI bt b4 (L.setIfInBounds 9 S) w aS aT aU ar ay aA aB aD aE aF aH aI v aK aM aO aP aR z l s)/\
  (∀v,v= aq #[B o a, B o b, B o c, B o d, B o e, B o f]->cQ an N g a b c d e f x y P af V ah bR bQ bH bI bt b4 (L.setIfInBounds 10 S) w aS aT aU ar ay aA aB aD aE aF aH aI aJ v aM aO aP aR z l s)/\
  (∀v,v= O (D ⟨g,0,F⟩) 3 3->cQ an N g a b c d e f x y P af V ah bR bQ bH bI bt b4 (L.setIfInBounds 11 S) w aS aT aU ar ay aA aB aD aE aF aH aI aJ aK v aO aP aR z l s)/\
  (∀v,v= ad (D ⟨g,4,F⟩)->cQ an N g a b c d e f x y P af V ah bR bQ bH bI bt b4 (L.setIfInBounds 12 S) w aS aT aU ar ay aA aB aD aE aF aH aI aJ aK aM v aP aR z l s)/\
  (∀v,v=bu V ah->cQ an N g a b c d e f x y P af V ah bR bQ bH bI bt b4 (L.setIfInBounds 13 S) w aS aT aU ar ay aA aB aD aE aF aH aI aJ aK aM aO v aR z l s)/\
  (∀v,v=bu bt b4->cQ an N g a b c d e f x y P af V ah bR bQ bH bI bt b4 (L.setIfInBounds 14 S) w aS aT aU ar ay aA aB aD aE aF aH aI aJ aK aM aO aP v z l s):=by
 refine⟨?_, ?_, ?_, ?_, ?_, ?_, ?_, ?_, ?_, ?_, ?_, ?_, ?_, ?_, ?_⟩ <;> (rintro v rfl;cases h;constructor <;> first | assumption | exact fun q=>‹L.getD _ _=_->_› (up (by decide) q) | exact fun q r=>‹L.getD _ _=_->L.getD _ _=_->_› (up (by decide) q) (up (by decide) r) | exact fun q=>And.imp gX id (‹L.getD _ _=_->_› (up (by decide) q)) | exact fun _=>rfl | simpa using ‹L.size=21›)
theorem cQ.zO(h:cQ an N g a b c d e f x y P af V ah bR bQ bH bI bt b4 L w aS aT aU ar ay aA aB aD aE aF aH aI aJ aK aM aO aP aR z l s)(hn:N<=w.heap.size)(a9:an (w.alloc (Y #[B o 0, B o 0] 40)))(bp:L.getD 18 Q=Q):
  cQ an N g a b c d e f x y P af V ah bR bQ bH bI bt b4 (L.setIfInBounds 15 S) (w.alloc (Y #[B o 0, B o 0] 40)) (ad (D ⟨w.heap.size,0,F⟩)) aT aU ar ay aA aB aD aE aF aH aI aJ aK aM aO aP aR w.heap.size l s:=by
 have ab:=h.below (aV w _) a9;refine⟨by simpa using h.aL,a9, ?_, ?_, ?_, ?_, ?_, ?_, ?_, ?_, ?_, ?_, ?_, ?_, ?_, ?_, ?_,fun _=>⟨rfl,hn,0,0,aQ w _⟩,fun av=>ab.jO (up (by decide) av),fun av=>ab.jP (up (by decide) av), ?_, ?_, ?_,fun av=>absurd ((bp).symm.trans (up (by decide) av)) (by decide),fun av=>⟨gX (ab.kx (up (by decide) av)).1,(ab.kx (up (by decide) av)).2⟩,fun av=>⟨gX (ab.ky (up (by decide) av)).1,(ab.ky (up (by decide) av)).2⟩⟩;iterate 15 exact fun q=>(by cases h;assumption:L.getD _ _=_->_) (up (by decide) q)
 ·intro _ ag bq
  obtain⟨_,_,_,_,az⟩:=h.jO (up (by decide) ag);have:=am az;omega
 ·intro _ ag bq
  obtain⟨_,_,_,_,az⟩:=h.jP (up (by decide) ag);have:=am az;omega
 ·exact fun ag az=>h.bm (up (by decide) ag) (up (by decide) az)
theorem cQ.zP(h:cQ an N g a b c d e f x y P af V ah bR bQ bH bI bt b4 L w aS aT aU ar ay aA aB aD aE aF aH aI aJ aK aM aO aP aR z l s)(hn:N<=w.heap.size)(a9:an (w.alloc (Y #[B o 0, B o 0] 40)))(bp:L.getD 19 Q=Q):
  cQ an N g a b c d e f x y P af V ah bR bQ bH bI bt b4 (L.setIfInBounds 16 S) (w.alloc (Y #[B o 0, B o 0] 40)) aS (ad (D ⟨w.heap.size,0,F⟩)) aU ar ay aA aB aD aE aF aH aI aJ aK aM aO aP aR z w.heap.size s:=by
 have ab:=h.below (aV w _) a9;refine⟨by simpa using h.aL,a9, ?_, ?_, ?_, ?_, ?_, ?_, ?_, ?_, ?_, ?_, ?_, ?_, ?_, ?_, ?_,fun av=>ab.jN (up (by decide) av),fun _=>⟨rfl,hn,0,0,aQ w _⟩,fun av=>ab.jP (up (by decide) av), ?_, ?_, ?_,fun av=>⟨gX (ab.kw (up (by decide) av)).1,(ab.kw (up (by decide) av)).2⟩,fun av=>absurd ((bp).symm.trans (up (by decide) av)) (by decide),fun av=>⟨gX (ab.ky (up (by decide) av)).1,(ab.ky (up (by decide) av)).2⟩⟩;iterate 15 exact fun q=>(by cases h;assumption:L.getD _ _=_->_) (up (by decide) q)
 ·intro ag _ bq
  obtain⟨_,_,_,_,az⟩:=h.jN (up (by decide) ag);have:=am az;omega
 ·exact fun ag az=>h.aZ (up (by decide) ag) (up (by decide) az)
 intro _ ag bq;obtain⟨_,_,_,_,az⟩:=h.jP (up (by decide) ag);have:=am az;omega
theorem cQ.zQ(h:cQ an N g a b c d e f x y P af V ah bR bQ bH bI bt b4 L w aS aT aU ar ay aA aB aD aE aF aH aI aJ aK aM aO aP aR z l s)(hn:N<=w.heap.size)(a9:an (w.alloc (Y #[B o 0, B o 0] 40)))(bp:L.getD 20 Q=Q):
  cQ an N g a b c d e f x y P af V ah bR bQ bH bI bt b4 (L.setIfInBounds 17 S) (w.alloc (Y #[B o 0, B o 0] 40)) aS aT (ad (D ⟨w.heap.size,0,F⟩)) ar ay aA aB aD aE aF aH aI aJ aK aM aO aP aR z l w.heap.size:=by
 have ab:=h.below (aV w _) a9;refine⟨by simpa using h.aL,a9, ?_, ?_, ?_, ?_, ?_, ?_, ?_, ?_, ?_, ?_, ?_, ?_, ?_, ?_, ?_,fun av=>ab.jN (up (by decide) av),fun av=>ab.jO (up (by decide) av),fun _=>⟨rfl,hn,0,0,aQ w _⟩, ?_, ?_, ?_,fun av=>⟨gX (ab.kw (up (by decide) av)).1,(ab.kw (up (by decide) av)).2⟩,fun av=>⟨gX (ab.kx (up (by decide) av)).1,(ab.kx (up (by decide) av)).2⟩,fun av=>absurd ((bp).symm.trans (up (by decide) av)) (by decide)⟩;iterate 15 exact fun q=>(by cases h;assumption:L.getD _ _=_->_) (up (by decide) q)
 ·exact fun ag az=>h.q0 (up (by decide) ag) (up (by decide) az)
 ·intro ag _ bq
  obtain⟨_,_,_,_,az⟩:=h.jN (up (by decide) ag);have:=am az;omega
 intro ag _ bq;obtain⟨_,_,_,_,az⟩:=h.jO (up (by decide) ag);have:=am az;omega
theorem cQ.zR(h:cQ an N g a b c d e f x y P af V ah bR bQ bH bI bt b4 L w aS aT aU ar ay aA aB aD aE aF aH aI aJ aK aM aO aP aR z l s)(bc:L.getD 15 Q=S)(a9:an ((w.setCell ⟨z,0,F⟩ (B o bR)).setCell ⟨z,1,F⟩ (B o bQ))):
  cQ an N g a b c d e f x y P af V ah bR bQ bH bI bt b4 (L.setIfInBounds 18 S) ((w.setCell ⟨z,0,F⟩ (B o bR)).setCell ⟨z,1,F⟩ (B o bQ)) aS aT aU ar ay aA aB aD aE aF aH aI aJ aK aM aO aP aR z l s:=by
 obtain⟨ap,ak,u,v,bx⟩:=h.jN bc;refine⟨by simpa using h.aL,a9, ?_, ?_, ?_, ?_, ?_, ?_, ?_, ?_, ?_, ?_, ?_, ?_, ?_, ?_, ?_,fun _=>⟨ap,ak,_,_,kE bx _ _⟩, ?_, ?_,fun h1 ab=>h.q0 (up (by decide) h1) (up (by decide) ab),fun h1 ab=>h.aZ (up (by decide) h1) (up (by decide) ab),fun h1 ab=>h.bm (up (by decide) h1) (up (by decide) ab),fun _=>⟨gX bc,kE bx _ _⟩, ?_, ?_⟩;iterate 15 exact fun q=>(by cases h;assumption:L.getD _ _=_->_) (up (by decide) q)
 ·intro av
  have aY:=up (by decide) av;obtain⟨f1,f2,u2,v2,a8⟩:=h.jO aY;exact⟨f1,f2,u2,v2,eM a8 (gp (h.q0 bc aY)) _ _⟩
 ·intro av
  have aY:=up (by decide) av;obtain⟨f1,f2,u2,v2,a8⟩:=h.jP aY;exact⟨f1,f2,u2,v2,eM a8 (gp (h.aZ bc aY)) _ _⟩
 ·intro av
  obtain⟨aY,a8⟩:=h.kx (up (by decide) av);exact⟨gX aY,eM a8 (gp (h.q0 bc aY)) _ _⟩
 intro av;obtain⟨aY,a8⟩:=h.ky (up (by decide) av);exact⟨gX aY,eM a8 (gp (h.aZ bc aY)) _ _⟩
theorem cQ.zS(h:cQ an N g a b c d e f x y P af V ah bR bQ bH bI bt b4 L w aS aT aU ar ay aA aB aD aE aF aH aI aJ aK aM aO aP aR z l s)(bc:L.getD 16 Q=S)(a9:an ((w.setCell ⟨l,0,F⟩ (B o bH)).setCell ⟨l,1,F⟩ (B o bI))):
  cQ an N g a b c d e f x y P af V ah bR bQ bH bI bt b4 (L.setIfInBounds 19 S) ((w.setCell ⟨l,0,F⟩ (B o bH)).setCell ⟨l,1,F⟩ (B o bI)) aS aT aU ar ay aA aB aD aE aF aH aI aJ aK aM aO aP aR z l s:=by
 obtain⟨ap,ak,u,v,bx⟩:=h.jO bc;refine⟨by simpa using h.aL,a9, ?_, ?_, ?_, ?_, ?_, ?_, ?_, ?_, ?_, ?_, ?_, ?_, ?_, ?_, ?_, ?_,fun _=>⟨ap,ak,_,_,kE bx _ _⟩, ?_,fun h1 ab=>h.q0 (up (by decide) h1) (up (by decide) ab),fun h1 ab=>h.aZ (up (by decide) h1) (up (by decide) ab),fun h1 ab=>h.bm (up (by decide) h1) (up (by decide) ab), ?_,fun _=>⟨gX bc,kE bx _ _⟩, ?_⟩;iterate 15 exact fun q=>(by cases h;assumption:L.getD _ _=_->_) (up (by decide) q)
 ·intro av
  have aY:=up (by decide) av;obtain⟨f1,f2,u2,v2,a8⟩:=h.jN aY;exact⟨f1,f2,u2,v2,eM a8 (h.q0 aY bc) _ _⟩
 ·intro av
  have aY:=up (by decide) av;obtain⟨f1,f2,u2,v2,a8⟩:=h.jP aY;exact⟨f1,f2,u2,v2,eM a8 (gp (h.bm bc aY)) _ _⟩
 ·intro av
  obtain⟨aY,a8⟩:=h.kw (up (by decide) av);exact⟨gX aY,eM a8 (h.q0 aY bc) _ _⟩
 intro av;obtain⟨aY,a8⟩:=h.ky (up (by decide) av);exact⟨gX aY,eM a8 (gp (h.bm bc aY)) _ _⟩
theorem cQ.zT(h:cQ an N g a b c d e f x y P af V ah bR bQ bH bI bt b4 L w aS aT aU ar ay aA aB aD aE aF aH aI aJ aK aM aO aP aR z l s)(bc:L.getD 17 Q=S)(a9:an ((w.setCell ⟨s,0,F⟩ (B o bt)).setCell ⟨s,1,F⟩ (B o b4))):
  cQ an N g a b c d e f x y P af V ah bR bQ bH bI bt b4 (L.setIfInBounds 20 S) ((w.setCell ⟨s,0,F⟩ (B o bt)).setCell ⟨s,1,F⟩ (B o b4)) aS aT aU ar ay aA aB aD aE aF aH aI aJ aK aM aO aP aR z l s:=by
 obtain⟨ap,ak,u,v,bx⟩:=h.jP bc;refine⟨by simpa using h.aL,a9, ?_, ?_, ?_, ?_, ?_, ?_, ?_, ?_, ?_, ?_, ?_, ?_, ?_, ?_, ?_, ?_, ?_,fun _=>⟨ap,ak,_,_,kE bx _ _⟩,fun h1 ab=>h.q0 (up (by decide) h1) (up (by decide) ab),fun h1 ab=>h.aZ (up (by decide) h1) (up (by decide) ab),fun h1 ab=>h.bm (up (by decide) h1) (up (by decide) ab), ?_, ?_,fun _=>⟨gX bc,kE bx _ _⟩⟩;iterate 15 exact fun q=>(by cases h;assumption:L.getD _ _=_->_) (up (by decide) q)
 ·intro av
  have aY:=up (by decide) av;obtain⟨f1,f2,u2,v2,a8⟩:=h.jN aY;exact⟨f1,f2,u2,v2,eM a8 (h.aZ aY bc) _ _⟩
 ·intro av
  have aY:=up (by decide) av;obtain⟨f1,f2,u2,v2,a8⟩:=h.jO aY;exact⟨f1,f2,u2,v2,eM a8 (h.bm aY bc) _ _⟩
 ·intro av
  obtain⟨aY,a8⟩:=h.kw (up (by decide) av);exact⟨gX aY,eM a8 (h.aZ aY bc) _ _⟩
 intro av;obtain⟨aY,a8⟩:=h.kx (up (by decide) av);exact⟨gX aY,eM a8 (h.bm aY bc) _ _⟩
open Go.RowKit
def nR(E a6 n bH bI bt b4:Int):Prop:=((bY E n=bH/\bZ a6 n=bI)/\(bY E (n+1)=bt/\bZ a6 (n+1)=b4))∨((bY E n=bt/\bZ a6 n=b4)/\(bY E (n+1)=bH/\bZ a6 (n+1)=bI))
theorem ti(E:Int):bY E 0=2*E:=by simp[bY,eK];omega
theorem qT(E:Int):bY E 1=2*E+2:=by simp[bY,eK];omega
theorem qU(E:Int):bY E 2=2*E+2:=by simp[bY,eK];omega
theorem qV(E:Int):bY E 3=2*E:=by simp[bY,eK];omega
theorem tj(E:Int):bY E 4=2*E:=by simp[bY,eK];omega
theorem tk(E:Int):bZ E 0=2*E:=by simp[bZ,eL];omega
theorem qW(E:Int):bZ E 1=2*E:=by simp[bZ,eL];omega
theorem qX(E:Int):bZ E 2=2*E+2:=by simp[bZ,eL];omega
theorem qY(E:Int):bZ E 3=2*E+2:=by simp[bZ,eL];omega
theorem tl(E:Int):bZ E 4=2*E:=by simp[bZ,eL];omega
theorem wT{K bS bT:Int}(h0:2*E+1=bR)(h1:2*a6+1=bQ)(fK:bH+bt-2*bR=bS)(fL:bI+b4-2*bQ=bT)
  (a9:(K=0/\bS=0/\bT= -2/\(bH-bR= -1∨bH-bR=1)/\bI-bQ= -1)∨(K=1/\bS=2/\bT=0/\(bI-bQ= -1∨bI-bQ=1)/\bH-bR=1)∨(K=2/\bS=0/\bT=2/\(bH-bR= -1∨bH-bR=1)/\bI-bQ=1)∨(K=3/\bS= -2/\bT=0/\(bI-bQ= -1∨bI-bQ=1)/\bH-bR= -1)):
  fa bS bT=K/\∀n:Int,0<=n->n<=3->(nR E a6 n bH bI bt b4↔n=K):=by
 constructor
 ·rcases a9 with ⟨rfl,rfl,rfl,_⟩ | ⟨rfl,rfl,rfl,_⟩ | ⟨rfl,rfl,rfl,_⟩ | ⟨rfl,rfl,rfl,_⟩ <;> rfl
 intro n fR fU;have hn:n=0∨n=1∨n=2∨n=3:=by omega
 unfold nR;rcases hn with rfl | rfl | rfl | rfl
 ·simp only[Int.zero_add,ti,qT,tk,qW]
  omega
 ·rw[show(1:Int)+1=2 from rfl]
  simp only[qU,qT,qX,qW];omega
 ·rw[show(2:Int)+1=3 from rfl]
  simp only[qU,qV,qX,qY];omega
 rw[show(3:Int)+1=4 from rfl];simp only[tj,qV,tl,qY];omega
theorem wU(h0:2*E+1=bR)(h1:2*a6+1=bQ)
  (a9:(bH+bt-2*bR=0/\bI+b4-2*bQ= -2/\(bH-bR= -1∨bH-bR=1)/\bI-bQ= -1)∨(bH+bt-2*bR=2/\bI+b4-2*bQ=0/\(bI-bQ= -1∨bI-bQ=1)/\bH-bR=1)∨(bH+bt-2*bR=0/\bI+b4-2*bQ=2/\(bH-bR= -1∨bH-bR=1)/\bI-bQ=1)∨(bH+bt-2*bR= -2/\bI+b4-2*bQ=0/\(bI-bQ= -1∨bI-bQ=1)/\bH-bR= -1)):
  (0<=fa (bH+bt-2*bR) (bI+b4-2*bQ)/\fa (bH+bt-2*bR) (bI+b4-2*bQ)<=3)/\∀n:Int,0<=n->n<=3->(nR E a6 n bH bI bt b4↔n=fa (bH+bt-2*bR) (bI+b4-2*bQ)):=by
 have key:=fun K I=>wT (bH:=bH) (bI:=bI) (bt:=bt) (b4:=b4) (K:=K) h0 h1 rfl rfl I;rcases a9 with h | h | h | h
 ·obtain⟨e,hn⟩:=key 0 (by omega)
  rw[e];exact⟨by omega,hn⟩
 ·obtain⟨e,hn⟩:=key 1 (by omega)
  rw[e];exact⟨by omega,hn⟩
 ·obtain⟨e,hn⟩:=key 2 (by omega)
  rw[e];exact⟨by omega,hn⟩
 obtain⟨e,hn⟩:=key 3 (by omega);rw[e];exact⟨by omega,hn⟩
theorem AI{k:Int}(bW:bR=a*(2*x+1)+b*(2*y+1)+e)(bX:bQ=c*(2*x+1)+d*(2*y+1)+f)
  (bD:bH=a*bY x k+b*bZ y k+e) (bF:bI=c*bY x k+d*bZ y k+f) (bE:bt=a*bY x (k+1)+b*bZ y (k+1)+e) (bG:b4=c*bY x (k+1)+d*bZ y (k+1)+f)
  (h:dh a b c d=S) (bq:e % 2=0) (hf:f % 2=0) (dG:0<=k) (dH:k<=3) (cF: -1000000<=x) (cG:x<=1000000) (cI: -1000000<=y) (cJ:y<=1000000) (ap: -1000000<=e) (ak:e<=1000000) (f1: -1000000<=f) (f2:f<=1000000):
  (2*(bR / 2)+1=bR/\2*(bQ / 2)+1=bQ/\(-3100000<=bR/\bR<=3100000)/\(-3100000<=bQ/\bQ<=3100000))/\(0<=fa (bH+bt-2*bR) (bI+b4-2*bQ)/\fa (bH+bt-2*bR) (bI+b4-2*bQ)<=3)/\
   ∀n:Int,0<=n->n<=3->(nR (bR / 2) (bQ / 2) n bH bI bt b4↔n=fa (bH+bt-2*bR) (bI+b4-2*bQ)):=by
 have a9:k=0∨k=1∨k=2∨k=3:=by omega
 rcases vY h with ⟨rfl,rfl,rfl,rfl⟩ | ⟨rfl,rfl,rfl,rfl⟩ | ⟨rfl,rfl,rfl,rfl⟩ | ⟨rfl,rfl,rfl,rfl⟩ | ⟨rfl,rfl,rfl,rfl⟩ | ⟨rfl,rfl,rfl,rfl⟩ | ⟨rfl,rfl,rfl,rfl⟩ | ⟨rfl,rfl,rfl,rfl⟩ <;> rcases a9 with rfl | rfl | rfl | rfl <;> (simp only[Int.zero_add,Int.reduceAdd,ti,qT,qU,qV,tj,tk,qW,qX,qY,tl] at bD bF bE bG;exact⟨⟨by omega,by omega,by omega,by omega⟩,wU (by omega) (by omega) (by omega)⟩)
theorem m3(a b c d e f x y k:Int)(w:ac)(a3:jy a b c d e f)(ht:dh a b c d=S)(eh:e % 2=0)(ei:f % 2=0)(cF: -1000000<=x)(cG:x<=1000000)(cI: -1000000<=y)(cJ:y<=1000000)(dG:0<=k)(dH:k<=3):
  Calls aj 31 #[aq #[B o a, B o b, B o c, B o d, B o e, B o f],dQ x y k] w fun bB Z=>bB= .returned (bK (h8 a b c d e f x y k))/\Below w.heap.size w Z:=by
 have dV:=o0 k cF cG;have dW:=o0 (k+1) cF cG;have dX:=o1 k cI cJ;have d3:=o1 (k+1) cI cJ;obtain⟨P,dv⟩:=ai (bY x k);obtain⟨af,dx⟩:=ai (bZ y k);obtain⟨V,dw⟩:=ai (bY x (k+1));obtain⟨ah,dy⟩:=ai (bZ y (k+1));rw[<-dv] at dV;rw[<-dw] at dW;rw[<-dx] at dX;rw[<-dy] at d3;obtain⟨cK,cM,cL,cN⟩:=df dv dx dw dy;clear dv dx dw dy;have e7:=ck (a:=a) (x:=2*x+1) (M:=2000002) a3.ao a3.a2 (by omega) (by omega);have fb:=ck (a:=b) (x:=2*y+1) (M:=2000002) a3.b1 a3.aC (by omega) (by omega);have fe:=ck (a:=c) (x:=2*x+1) (M:=2000002) a3.c1 a3.c2 (by omega) (by omega);have fh:=ck (a:=d) (x:=2*y+1) (M:=2000002) a3.d1 a3.d2 (by omega) (by omega);obtain⟨bR,bW⟩:=ai (a*(2*x+1)+b*(2*y+1)+e)
 obtain⟨bQ,bX⟩:=ai (c*(2*x+1)+d*(2*y+1)+f);have e8:=ck (a:=a) (x:=P) (M:=2000002) a3.ao a3.a2 (by omega) (by omega);have fc:=ck (a:=b) (x:=af) (M:=2000002) a3.b1 a3.aC (by omega) (by omega);have ff:=ck (a:=c) (x:=P) (M:=2000002) a3.c1 a3.c2 (by omega) (by omega);have fi:=ck (a:=d) (x:=af) (M:=2000002) a3.d1 a3.d2 (by omega) (by omega);obtain⟨bH,bD⟩:=ai (a*P+b*af+e);obtain⟨bI,bF⟩:=ai (c*P+d*af+f);have e9:=ck (a:=a) (x:=V) (M:=2000002) a3.ao a3.a2 (by omega) (by omega);have fd:=ck (a:=b) (x:=ah) (M:=2000002) a3.b1 a3.aC (by omega) (by omega);have fg:=ck (a:=c) (x:=V) (M:=2000002) a3.c1 a3.c2 (by omega) (by omega);have fj:=ck (a:=d) (x:=ah) (M:=2000002) a3.d1 a3.d2 (by omega) (by omega);obtain⟨bt,bE⟩:=ai (a*V+b*ah+e)
 obtain⟨b4,bG⟩:=ai (c*V+d*ah+f);have a5:=a3.ap;have bj:=a3.ak;have ej:=a3.f1;have ek:=a3.f2;have dK:Hid (∀w:ac,Calls aj 78 #[aq #[B o a, B o b, B o c, B o d, B o e, B o f],bu (2*x+1) (2*y+1)] w fun bB Z=>bB= .returned (bu bR bQ)/\Below w.heap.size w Z):=R (fun w=>by
  have h:=jd a b c d e f (2*x+1) (2*y+1) w (by omega) (by omega) (by omega) (by omega) (by omega) (by omega);rw[<-bW,<-bX] at h;exact h)
 have dL:Hid (∀w:ac,Calls aj 78 #[aq #[B o a, B o b, B o c, B o d, B o e, B o f],bu P af] w fun bB Z=>bB= .returned (bu bH bI)/\Below w.heap.size w Z):=R (fun w=>by
  have h:=jd a b c d e f P af w (by omega) (by omega) (by omega) (by omega) (by omega) (by omega);rw[<-bD,<-bF] at h;exact h)
 have dN:Hid (∀w:ac,Calls aj 78 #[aq #[B o a, B o b, B o c, B o d, B o e, B o f],bu V ah] w fun bB Z=>bB= .returned (bu bt b4)/\Below w.heap.size w Z):=R (fun w=>by
  have h:=jd a b c d e f V ah w (by omega) (by omega) (by omega) (by omega) (by omega) (by omega);rw[<-bE,<-bG] at h;exact h)
 have el:=AI (x:=x) (y:=y) (k:=k) (bR:=bR) (bQ:=bQ) (bH:=bH) (bI:=bI) (bt:=bt) (b4:=b4) bW bX (by rw[bD,cK.out,cM.out]) (by rw[bF,cK.out,cM.out]) (by rw[bE,cL.out,cN.out]) (by rw[bG,cL.out,cN.out]) ht eh ei dG dH cF cG cI cJ a5 bj ej ek;obtain⟨T,bi⟩:=ai (h8 a b c d e f x y k);rw[<-bi];have ee:(bR / 2,bQ / 2,fa (bH+bt-2*bR) (bI+b4-2*bQ))=T:=by
  rw[bi,bW,bD,bE,bX,bF,bG,cK.out,cL.out,cM.out,cN.out];rfl
 obtain⟨E,ef⟩:=ai (bR / 2);obtain⟨a6,eg⟩:=ai (bQ / 2);obtain⟨K,I⟩:=ai (fa (bH+bt-2*bR) (bI+b4-2*bQ));rw[<-ef,<-eg,<-I] at el ee;obtain⟨⟨dd,dg,⟨fM,fN⟩,fO,fP⟩,⟨e6,fQ⟩,bL⟩:=el;subst ee;clear bi ef eg I;have ex:=R bL;clear bL;have dk:(bR-1).tdiv 2=E:=by
  rw[<-dd];rw[show 2*E+1-1=2*E by omega];exact wv E (by decide)
 have dm:(bQ-1).tdiv 2=a6:=by
  rw[<-dg];rw[show 2*a6+1-1=2*a6 by omega];exact wv a6 (by decide)
 have c0:b7.wrap (bR-1)=bR-1:=ca _ (by omega);have ci:b7.wrap (bQ-1)=bQ-1:=ca _ (by omega);have c3:b7.wrap E=E:=ca _ (by omega);have c4:b7.wrap a6=a6:=ca _ (by omega);have G:=R (a7 dd (a7 dg (a7 dk (a7 dm (a7 c0 (a7 ci (a7 c3 c4)))))));clear dd dg dk dm c0 ci c3 c4 ht eh ei;obtain⟨fo,fr,fp,fu,fq,fv⟩:=ft bW bX bD bF bE bG;clear bW bX bD bF bE bG a5 bj ej ek dV dW dX d3 a3 e7 e8 e9 fb fc fd fe ff fg fh fi fj;go_in
 go_wp2_with fail
 refine(xU x y k _ cF cG cI cJ dG dH).mono ?_;rintro e be ⟨⟨g,bq,cq⟩,cj⟩;subst bq;rw[<-cK.out,<-cM.out,<-cL.out,<-cN.out] at cq;have cr:be.heap[w.heap.size]? =D (Y #[B o a, B o b, B o c, B o d, B o e, B o f] 64 (0,0)):=aG (aW (aW (dE (Y #[B o a, B o b, B o c, B o d, B o e, B o f] 64) (by first | rfl | (simp;done) | (simp;omega))) _) _) cj (by first | (simp;done) | (simp;omega));have c9:be.heap[w.heap.size+1]? =D (Y #[B o x, B o y, B o k] 53 (0,0)):=aG (aW (dE (Y #[B o x, B o y, B o k] 53) (by first | rfl | (simp;done) | (simp;omega))) _) cj (by first | (simp;done) | (simp;omega));have cv:be.heap[w.heap.size+1+1]? =D (Y #[B o 0, B o 0, B o 0] 53 (0,0)):=aG (dE (Y #[B o 0, B o 0, B o 0] 53) (by first | rfl | (simp;done) | (simp;omega))) cj (by first | (simp;done) | (simp;omega))
 have eo:Below w.heap.size w be:=ax (aN (aN (aN aX _) _) _) cj;clear cj;obtain⟨ey,ez,eC,eD,eE,eF⟩:=cx cr;have eZ:=br cr;have er:=am cr;obtain⟨eI,eN,eO⟩:=dl c9;have e1:=br c9;have fm:=am c9;obtain⟨bs,bv,bw⟩:=dl cv;have bU:=br cv;have bP:=am cv
 go_wp2_with fail
 have dB:w.heap.size < be.heap.size:=er;have dD:w.heap.size+1+1 < be.heap.size:=bP;have dA:g < be.heap.size:=am cq;clear ey ez eC eD eE eF eZ er eI eN eO e1 fm bs bv bw bU bP;have b2:(kP w w.heap.size (w.heap.size+1+1) g be.heap.size (Y #[B o a, B o b, B o c, B o d, B o e, B o f] 64 (0,0)) (Y #[B o 0, B o 0, B o 0] 53 (0,0)) (Y #[B o (2*x+1), B o (2*y+1), B o P, B o af, B o V, B o ah] 40 (0,0))) be.drew:=⟨cr,cv,cq,eo.drew,ce⟩;have dP:=R b2;clear b2 cr c9 cv cq eo;refine mo (fun L a0 cD=>∃(aS aT aU ar ay aA aB aD aE aF aH aI aJ aK aM aO aP aR:ae) (z l s:Nat),a0={tmps:=#[aq #[B o a, B o b, B o c, B o d, B o e, B o f],dQ x y k, ad (D ⟨w.heap.size,0,F⟩), ad (D ⟨w.heap.size+1,0,F⟩), ad (D ⟨w.heap.size+1+1,0,F⟩), O (D ⟨g,0,F⟩) 3 3,aS,aT,aU,U,U,U,U,U,dQ x y k, O (D ⟨g,0,F⟩) 3 3,ar,ay,aA,aB,aD,aE,aF,aH,aI,aJ,aK,aM,aO,aP,aR,U,U,U,U,U,U,U,U,U,U,U,U,U,U,U,U,U,U,U,U,U,U,U,U,U,U,U,U,U,U,U,U,U,U,U,U,U,U,U,U,U,U,U,U,U,U,U,U,U,U,U,U,U,U,U,U,U,U,U,U,U,U],defers:= []}/\cQ (kP w w.heap.size (w.heap.size+1+1) g be.heap.size (Y #[B o a, B o b, B o c, B o d, B o e, B o f] 64 (0,0)) (Y #[B o 0, B o 0, B o 0] 53 (0,0)) (Y #[B o (2*x+1), B o (2*y+1), B o P, B o af, B o V, B o ah] 40 (0,0))) be.heap.size g a b c d e f x y P af V ah bR bQ bH bI bt b4 L cD aS aT aU ar ay aA aB aD aE aF aH aI aJ aK aM aO aP aR z l s) (by kernel_rfl) ?_ ?_ ?_
 ·exact⟨U,U,U,U,U,U,U,U,U,U,U,U,U,U,U,U,U,U,0,0,0,rfl,⟨by simp,dP.out,fun h=>absurd h (by decide),fun h=>absurd h (by decide),fun h=>absurd h (by decide),fun h=>absurd h (by decide),fun h=>absurd h (by decide),fun h=>absurd h (by decide),fun h=>absurd h (by decide),fun h=>absurd h (by decide),fun h=>absurd h (by decide),fun h=>absurd h (by decide),fun h=>absurd h (by decide),fun h=>absurd h (by decide),fun h=>absurd h (by decide),fun h=>absurd h (by decide),fun h=>absurd h (by decide),fun h=>absurd h (by decide),fun h=>absurd h (by decide),fun h=>absurd h (by decide),fun h=>absurd h (by decide),fun h=>absurd h (by decide),fun h=>absurd h (by decide),fun h=>absurd h (by decide),fun h=>absurd h (by decide),fun h=>absurd h (by decide)⟩⟩
 ·intro L a0 cD i dp J
  obtain⟨aS,aT,aU,ar,ay,aA,aB,aD,aE,aF,aH,aI,aJ,aK,aM,aO,aP,aR,z,l,s,rfl,bl⟩:=dp;have al:i < 21:=jU J;have A:=R bl;clear bl;have hc:i=0∨i=1∨i=2∨i=3∨i=4∨i=5∨i=6∨i=7∨i=8∨i=9∨i=10∨i=11∨i=12∨i=13∨i=14∨i=15∨i=16∨i=17∨i=18∨i=19∨i=20:=by omega
  clear al;rcases hc with rfl | rfl | rfl | rfl | rfl | rfl | rfl | rfl | rfl | rfl | rfl | rfl | rfl | rfl | rfl | rfl | rfl | rfl | rfl | rfl | rfl
  ·clear J
   obtain⟨a1,c1,c2,bV,bC,b8⟩:=cx A.out.bg.m;refine cB rfl (fun K I=> ?_);go_simp;refine I _ _ ?_;exact⟨_,_,_,_,_,_,_,_,_,_,_,_,_,_,_,_,_,_,z,l,s,rfl,(cQ.hH A.out).1 _ rfl⟩
  ·clear J
   refine cB rfl (fun K I=> ?_);go_simp;refine I _ _ ?_;exact⟨_,_,_,_,_,_,_,_,_,_,_,_,_,_,_,_,_,_,z,l,s,rfl,(cQ.hH A.out).2.1 _ rfl⟩
  ·have d1:=cA J (k:=1) (by kernel_rfl)
   clear J;obtain rfl:=A.out.cz d1;refine cB rfl (fun K I=> ?_);go_simp;refine I _ _ ?_;exact⟨_,_,_,_,_,_,_,_,_,_,_,_,_,_,_,_,_,_,z,l,s,rfl,(cQ.hH A.out).2.2.1 _ rfl⟩
  ·have d2:=cA J (k:=2) (by kernel_rfl)
   clear J;obtain rfl:=A.out.b9 d2;obtain⟨a1,c1,c2,bV,bC,b8⟩:=cx A.out.bg.c;refine cB rfl (fun K I=> ?_);go_simp;refine I _ _ ?_;exact⟨_,_,_,_,_,_,_,_,_,_,_,_,_,_,_,_,_,_,z,l,s,rfl,(cQ.hH A.out).2.2.2.1 _ rfl⟩
  ·have d0:=cA J (k:=0) (by kernel_rfl)
   have d8:=cA J (k:=3) (by kernel_rfl);clear J;obtain rfl:=A.out.p0 d0;obtain rfl:=A.out.dZ d8;refine cB rfl (fun K I=> ?_)
   go_wp2_with fail
   refine aw (dK.out _) fun wc bz=> ?_;refine I _ _ ?_;exact⟨_,_,_,_,_,_,_,_,_,_,_,_,_,_,_,_,_,_,z,l,s,rfl,(cQ.hH (A.out.below bz (A.out.bg.below bz))).2.2.2.2.1 _ rfl⟩
  ·clear J
   obtain⟨a1,c1,c2,bV,bC,b8⟩:=cx A.out.bg.m;refine cB rfl (fun K I=> ?_);go_simp;refine I _ _ ?_;exact⟨_,_,_,_,_,_,_,_,_,_,_,_,_,_,_,_,_,_,z,l,s,rfl,(cQ.hH A.out).2.2.2.2.2.1 _ rfl⟩
  ·clear J
   refine cB rfl (fun K I=> ?_);go_simp;refine I _ _ ?_;exact⟨_,_,_,_,_,_,_,_,_,_,_,_,_,_,_,_,_,_,z,l,s,rfl,(cQ.hH A.out).2.2.2.2.2.2.1 _ rfl⟩
  ·have eV:=cA J (k:=6) (by kernel_rfl)
   clear J;obtain rfl:=A.out.fw eV;refine cB rfl (fun K I=> ?_);go_simp;refine I _ _ ?_;exact⟨_,_,_,_,_,_,_,_,_,_,_,_,_,_,_,_,_,_,z,l,s,rfl,(cQ.hH A.out).2.2.2.2.2.2.2.1 _ rfl⟩
  ·have eW:=cA J (k:=7) (by kernel_rfl)
   clear J;obtain rfl:=A.out.kz eW;obtain⟨a1,c1,c2,bV,bC,b8⟩:=cx A.out.bg.c;refine cB rfl (fun K I=> ?_);go_simp;refine I _ _ ?_;exact⟨_,_,_,_,_,_,_,_,_,_,_,_,_,_,_,_,_,_,z,l,s,rfl,(cQ.hH A.out).2.2.2.2.2.2.2.2.1 _ rfl⟩
  ·have ea:=cA J (k:=5) (by kernel_rfl)
   have eX:=cA J (k:=8) (by kernel_rfl);clear J;obtain rfl:=A.out.eJ ea;obtain rfl:=A.out.kA eX;refine cB rfl (fun K I=> ?_)
   go_wp2_with fail
   refine aw (dL.out _) fun wc bz=> ?_;refine I _ _ ?_;exact⟨_,_,_,_,_,_,_,_,_,_,_,_,_,_,_,_,_,_,z,l,s,rfl,(cQ.hH (A.out.below bz (A.out.bg.below bz))).2.2.2.2.2.2.2.2.2.1 _ rfl⟩
  ·clear J
   obtain⟨a1,c1,c2,bV,bC,b8⟩:=cx A.out.bg.m;refine cB rfl (fun K I=> ?_);go_simp;refine I _ _ ?_;exact⟨_,_,_,_,_,_,_,_,_,_,_,_,_,_,_,_,_,_,z,l,s,rfl,(cQ.hH A.out).2.2.2.2.2.2.2.2.2.2.1 _ rfl⟩
  ·clear J
   refine cB rfl (fun K I=> ?_);go_simp;refine I _ _ ?_;exact⟨_,_,_,_,_,_,_,_,_,_,_,_,_,_,_,_,_,_,z,l,s,rfl,(cQ.hH A.out).2.2.2.2.2.2.2.2.2.2.2.1 _ rfl⟩
  ·have eR:=cA J (k:=11) (by kernel_rfl)
   clear J;obtain rfl:=A.out.kv eR;refine cB rfl (fun K I=> ?_);go_simp;refine I _ _ ?_;exact⟨_,_,_,_,_,_,_,_,_,_,_,_,_,_,_,_,_,_,z,l,s,rfl,(cQ.hH A.out).2.2.2.2.2.2.2.2.2.2.2.2.1 _ rfl⟩
  ·have eS:=cA J (k:=12) (by kernel_rfl)
   clear J;obtain rfl:=A.out.uX eS;obtain⟨a1,c1,c2,bV,bC,b8⟩:=cx A.out.bg.c;refine cB rfl (fun K I=> ?_);go_simp;refine I _ _ ?_;exact⟨_,_,_,_,_,_,_,_,_,_,_,_,_,_,_,_,_,_,z,l,s,rfl,(cQ.hH A.out).2.2.2.2.2.2.2.2.2.2.2.2.2.1 _ rfl⟩
  ·have eQ:=cA J (k:=10) (by kernel_rfl)
   have eT:=cA J (k:=13) (by kernel_rfl);clear J;obtain rfl:=A.out.ku eQ;obtain rfl:=A.out.uY eT;refine cB rfl (fun K I=> ?_)
   go_wp2_with fail
   refine aw (dN.out _) fun wc bz=> ?_;refine I _ _ ?_;exact⟨_,_,_,_,_,_,_,_,_,_,_,_,_,_,_,_,_,_,z,l,s,rfl,(cQ.hH (A.out.below bz (A.out.bg.below bz))).2.2.2.2.2.2.2.2.2.2.2.2.2.2 _ rfl⟩
  ·have bp:L.getD 18 Q=Q:=by
    cases h:L.getD 18 Q with
    | false=>rfl
    | true=>exact absurd ((A.out.kw h).1.symm.trans (getD_both (mem_ready.1 J).1)) (by decide)
   clear J;refine cB rfl (fun K I=> ?_);go_simp;refine I _ _ ?_;exact⟨_,_,_,_,_,_,_,_,_,_,_,_,_,_,_,_,_,_,_,l,s,rfl,cQ.zO A.out A.out.bg.oj (A.out.bg.below (aV _ _)) bp⟩
  ·have bp:L.getD 19 Q=Q:=by
    cases h:L.getD 19 Q with
    | false=>rfl
    | true=>exact absurd ((A.out.kx h).1.symm.trans (getD_both (mem_ready.1 J).1)) (by decide)
   clear J;refine cB rfl (fun K I=> ?_);go_simp;refine I _ _ ?_;exact⟨_,_,_,_,_,_,_,_,_,_,_,_,_,_,_,_,_,_,z,_,s,rfl,cQ.zP A.out A.out.bg.oj (A.out.bg.below (aV _ _)) bp⟩
  ·have bp:L.getD 20 Q=Q:=by
    cases h:L.getD 20 Q with
    | false=>rfl
    | true=>exact absurd ((A.out.ky h).1.symm.trans (getD_both (mem_ready.1 J).1)) (by decide)
   clear J;refine cB rfl (fun K I=> ?_);go_simp;refine I _ _ ?_;exact⟨_,_,_,_,_,_,_,_,_,_,_,_,_,_,_,_,_,_,z,l,_,rfl,cQ.zQ A.out A.out.bg.oj (A.out.bg.below (aV _ _)) bp⟩
  ·have d4:=cA J (k:=15) (by kernel_rfl)
   have d9:=cA J (k:=4) (by kernel_rfl);clear J;obtain rfl:=A.out.dO d9;obtain⟨rfl,cl,u,v,a4⟩:=A.out.jN d4;obtain⟨et,eu⟩:=d7 a4;have ev:=br a4;have ew:=am a4;refine cB rfl (fun K I=> ?_);go_simp;refine I _ _ ?_;exact⟨_,_,_,_,_,_,_,_,_,_,_,_,_,_,_,_,_,_,z,l,s,rfl,cQ.zR A.out d4 (A.out.bg.me dB dD dA (by omega) cl _ _)⟩
  ·have d5:=cA J (k:=16) (by kernel_rfl)
   have eY:=cA J (k:=9) (by kernel_rfl);clear J;obtain rfl:=A.out.kB eY;obtain⟨rfl,cl,u,v,a4⟩:=A.out.jO d5;obtain⟨et,eu⟩:=d7 a4;have ev:=br a4;have ew:=am a4;refine cB rfl (fun K I=> ?_);go_simp;refine I _ _ ?_;exact⟨_,_,_,_,_,_,_,_,_,_,_,_,_,_,_,_,_,_,z,l,s,rfl,cQ.zS A.out d5 (A.out.bg.me dB dD dA (by omega) cl _ _)⟩
  have d6:=cA J (k:=17) (by kernel_rfl);have eU:=cA J (k:=14) (by kernel_rfl);clear J;obtain rfl:=A.out.uZ eU;obtain⟨rfl,cl,u,v,a4⟩:=A.out.jP d6;obtain⟨et,eu⟩:=d7 a4;have ev:=br a4;have ew:=am a4;refine cB rfl (fun K I=> ?_);go_simp;refine I _ _ ?_;exact⟨_,_,_,_,_,_,_,_,_,_,_,_,_,_,_,_,_,_,z,l,s,rfl,cQ.zT A.out d6 (A.out.bg.me dB dD dA (by omega) cl _ _)⟩
 intro L a0 cD dp en;obtain⟨aS,aT,aU,ar,ay,aA,aB,aD,aE,aF,aH,aI,aJ,aK,aM,aO,aP,aR,z,l,s,rfl,bl⟩:=dp;have hall:=lE en bl.aL (by kernel_rfl);clear en;have e2:=bl.jN (hall 15 (by decide));have e3:=bl.jO (hall 16 (by decide));have e5:=bl.jP (hall 17 (by decide));have eb:=(bl.kw (hall 18 (by decide))).2;have ec:=(bl.kx (hall 19 (by decide))).2;have ed:=(bl.ky (hall 20 (by decide))).2;have b2:=bl.bg;clear bl hall;obtain⟨rfl,fC,_⟩:=e2;obtain⟨rfl,fD,_⟩:=e3;obtain⟨rfl,fE,_⟩:=e5;have c6:=eb;have ct:=ec;have cy:=ed;have cw:=b2.r;have ep:=b2.bel;clear eb ec ed b2 dP dK dL dN;obtain⟨dd,dg,dk,dm,c0,ci,c3,c4⟩:=G.out;clear G
 dsimp only
 obtain⟨eG,eH⟩:=d7 c6;have e0:=br c6;have fk:=am c6;obtain⟨cR,cV⟩:=d7 ct;have cY:=br ct;have di:=am ct;obtain⟨cW,cX⟩:=d7 cy;have cZ:=br cy;have dj:=am cy;obtain⟨bs,bv,bw⟩:=dl cw;have bU:=br cw;have bP:=am cw
 go_wp2_with fail
 go_quiet (fail)
 go_wp2_with fail
 clear eG eH e0 fk c6 c0 ci c3 c4 dk dm;go_loopw [11] (fun i wr=>∃n:Int,0<=n/\n<=K/\i= B o n/\Below cD.heap.size cD wr) (fun i _=>(4-intOf i).toNat)
 case atStart=>exact⟨0,by omega,e6,rfl,below_drewN aX _⟩
 obtain⟨n,em,fG,rfl,co⟩:=hrel;have b3:=aG ct co (am ct);have b6:=aG cy co (am cy);have b5:=aG cw co (am cw);have eq:Below w.heap.size w wr:=ep.trans (co.mono ep.size);clear cR cV cY di cW cX cZ dj bs bv bw bU bP;obtain⟨bf,dq⟩:=ai (bY E n);obtain⟨bh,dt⟩:=ai (bZ a6 n);obtain⟨bn,dr⟩:=ai (bY E (n+1));obtain⟨bo,du⟩:=ai (bZ a6 (n+1));have bL:=ex.out n em (by omega);unfold nR at bL;rw[<-dq,<-dr,<-dt,<-du] at bL;obtain⟨bA,dR,dS,dT,dU⟩:=dY bL dq dr dt du;clear bL dq dr dt du;obtain⟨cR,cV⟩:=d7 b3;have cY:=br b3;have di:=am b3;obtain⟨cW,cX⟩:=d7 b6;have cZ:=br b6
 have dj:=am b6;obtain⟨bs,bv,bw⟩:=dl b5;have bU:=br b5;have bP:=am b5
 go_wp2_with fail
 refine(ta E a6 n _ (by omega) (by omega) (by omega) (by omega) em (by omega)).mono ?_;rintro e cE ⟨⟨ci,bq,dz⟩,bJ⟩;subst bq;rw[<-dR.out,<-dS.out,<-dT.out,<-dU.out] at dz;have c5:=ax (aN co _) bJ;have c7:cE.heap[l]? =D (Y #[B o bH, B o bI] 40 (0,0)):=aG (aW b3 _) bJ (am (aW b3 _));have dc:cE.heap[s]? =D (Y #[B o bt, B o b4] 40 (0,0)):=aG (aW b6 _) bJ (am (aW b6 _));have c8:cE.heap[w.heap.size+1+1]? =D (Y #[B o 0, B o 0, B o 0] 53 (0,0)):=aG (aW b5 _) bJ (am (aW b5 _));have da:cE.heap[wr.heap.size]? =D (Y #[B o E, B o a6, B o n] 53 (0,0)):=aG (dE (Y #[B o E, B o a6, B o n] 53) (by first | rfl | (simp;done) | (simp;omega))) bJ (by first | (simp;done) | (simp;omega))
 have dF:Below w.heap.size w cE:=ax (aN eq _) bJ;clear cR cV cY di cW cX cZ dj bs bv bw bU bP b3 b6 b5 bJ eq;obtain⟨cR,cV⟩:=d7 c7;have cY:=br c7;have di:=am c7;obtain⟨cW,cX⟩:=d7 dc;have cZ:=br dc;have dj:=am dc;obtain⟨bs,bv,bw⟩:=dl c8;have bU:=br c8;have bP:=am c8;obtain⟨fx,fy,fA⟩:=dl da;have fB:=br da;have fV:=am da;obtain⟨d0,d1,d2,d8,d9,ea⟩:=cx dz;clear dz c7 dc c8 da dR dS dT dU;rcases jo (db [(bf,bH),(bh,bI)]) with a5 | a5
 ·rcases jo (db [(bn,bt),(bo,b4)]) with bj | bj
  ·have bk:Hid (n=K):=R (bA.out.1 (by simp[db] at a5 bj;omega))
   have ch:∀w:ac,(binOp .eql 40 (bu bf bh) (bu bH bI)).run aj w= .ok (aa S) w:=fun w=>by rw[fs,a5]
   have dI:∀w:ac,(binOp .eql 40 (bu bn bo) (bu bt b4)).run aj w= .ok (aa S) w:=fun w=>by rw[fs,bj]
   clear a5 bj
   go_wp2_with fail
   go_quiet (fail)
   go_wp2;refine cT (v:=dQ E a6 n) (by simp[results,Tryz.results31,go_sem,bs,bv,bw]) rfl ⟨by rw[bk.out], ?_⟩;exact jg (below_drewN dF _) _ (by omega) _ _ _
  rcases jo (db [(bf,bt),(bh,b4)]) with he3 | he3
  ·rcases jo (db [(bn,bH),(bo,bI)]) with he4 | he4
   ·have bk:Hid (n=K):=R (bA.out.1 (by simp[db] at a5 bj he3 he4;omega))
    have ch:∀w:ac,(binOp .eql 40 (bu bf bh) (bu bH bI)).run aj w= .ok (aa S) w:=fun w=>by rw[fs,a5]
    have dI:∀w:ac,(binOp .eql 40 (bu bn bo) (bu bt b4)).run aj w= .ok (aa Q) w:=fun w=>by rw[fs,bj]
    have cC:∀w:ac,(binOp .eql 40 (bu bf bh) (bu bt b4)).run aj w= .ok (aa S) w:=fun w=>by rw[fs,he3]
    have dJ:∀w:ac,(binOp .eql 40 (bu bn bo) (bu bH bI)).run aj w= .ok (aa S) w:=fun w=>by rw[fs,he4]
    clear a5 bj he3 he4
    go_wp2_with fail
    go_quiet (fail)
    go_wp2;refine cT (v:=dQ E a6 n) (by simp[results,Tryz.results31,go_sem,bs,bv,bw]) rfl ⟨by rw[bk.out], ?_⟩;exact jg (below_drewN dF _) _ (by omega) _ _ _
   have bk:Hid (n≠K):=R (fun h=>by
    have dn:=bA.out.2 h;simp[db] at a5 bj he3 he4;omega)
   have ch:∀w:ac,(binOp .eql 40 (bu bf bh) (bu bH bI)).run aj w= .ok (aa S) w:=fun w=>by rw[fs,a5]
   have dI:∀w:ac,(binOp .eql 40 (bu bn bo) (bu bt b4)).run aj w= .ok (aa Q) w:=fun w=>by rw[fs,bj]
   have cC:∀w:ac,(binOp .eql 40 (bu bf bh) (bu bt b4)).run aj w= .ok (aa S) w:=fun w=>by rw[fs,he3]
   have dJ:∀w:ac,(binOp .eql 40 (bu bn bo) (bu bH bI)).run aj w= .ok (aa Q) w:=fun w=>by rw[fs,he4]
   clear a5 bj he3 he4
   go_wp2_with fail
   go_quiet (fail)
   go_wp2;go_roundw
   case rel=>exact⟨n+1,by omega,by have:=bk.out;omega,rfl,below_drewN c5 _⟩
   case measure=>simp[intOf];omega
  have bk:Hid (n≠K):=R (fun h=>by
   have dn:=bA.out.2 h;simp[db] at a5 bj he3;omega)
  have ch:∀w:ac,(binOp .eql 40 (bu bf bh) (bu bH bI)).run aj w= .ok (aa S) w:=fun w=>by rw[fs,a5]
  have dI:∀w:ac,(binOp .eql 40 (bu bn bo) (bu bt b4)).run aj w= .ok (aa Q) w:=fun w=>by rw[fs,bj]
  have cC:∀w:ac,(binOp .eql 40 (bu bf bh) (bu bt b4)).run aj w= .ok (aa Q) w:=fun w=>by rw[fs,he3]
  clear a5 bj he3
  go_wp2_with fail
  go_quiet (fail)
  go_wp2;go_roundw
  case rel=>exact⟨n+1,by omega,by have:=bk.out;omega,rfl,below_drewN c5 _⟩
  case measure=>simp[intOf];omega
 rcases jo (db [(bf,bt),(bh,b4)]) with he3 | he3
 ·rcases jo (db [(bn,bH),(bo,bI)]) with he4 | he4
  ·have bk:Hid (n=K):=R (bA.out.1 (by simp[db] at a5 he3 he4;omega))
   have ch:∀w:ac,(binOp .eql 40 (bu bf bh) (bu bH bI)).run aj w= .ok (aa Q) w:=fun w=>by rw[fs,a5]
   have cC:∀w:ac,(binOp .eql 40 (bu bf bh) (bu bt b4)).run aj w= .ok (aa S) w:=fun w=>by rw[fs,he3]
   have dJ:∀w:ac,(binOp .eql 40 (bu bn bo) (bu bH bI)).run aj w= .ok (aa S) w:=fun w=>by rw[fs,he4]
   clear a5 he3 he4
   go_wp2_with fail
   go_quiet (fail)
   go_wp2;refine cT (v:=dQ E a6 n) (by simp[results,Tryz.results31,go_sem,bs,bv,bw]) rfl ⟨by rw[bk.out], ?_⟩;exact jg (below_drewN dF _) _ (by omega) _ _ _
  have bk:Hid (n≠K):=R (fun h=>by
   have dn:=bA.out.2 h;simp[db] at a5 he3 he4;omega)
  have ch:∀w:ac,(binOp .eql 40 (bu bf bh) (bu bH bI)).run aj w= .ok (aa Q) w:=fun w=>by rw[fs,a5]
  have cC:∀w:ac,(binOp .eql 40 (bu bf bh) (bu bt b4)).run aj w= .ok (aa S) w:=fun w=>by rw[fs,he3]
  have dJ:∀w:ac,(binOp .eql 40 (bu bn bo) (bu bH bI)).run aj w= .ok (aa Q) w:=fun w=>by rw[fs,he4]
  clear a5 he3 he4
  go_wp2_with fail
  go_quiet (fail)
  go_wp2;go_roundw
  case rel=>exact⟨n+1,by omega,by have:=bk.out;omega,rfl,below_drewN c5 _⟩
  case measure=>simp[intOf];omega
 have bk:Hid (n≠K):=R (fun h=>by
  have dn:=bA.out.2 h;simp[db] at a5 he3;omega)
 have ch:∀w:ac,(binOp .eql 40 (bu bf bh) (bu bH bI)).run aj w= .ok (aa Q) w:=fun w=>by rw[fs,a5]
 have cC:∀w:ac,(binOp .eql 40 (bu bf bh) (bu bt b4)).run aj w= .ok (aa Q) w:=fun w=>by rw[fs,he3]
 clear a5 he3
 go_wp2_with fail
 go_quiet (fail)
 go_wp2;go_roundw
 case rel=>exact⟨n+1,by omega,by have:=bk.out;omega,rfl,below_drewN c5 _⟩
 case measure=>simp[intOf];omega
end
section
set_option maxRecDepth 100000
open Go.RowKit
theorem vA(W H:Int)(Am Ac:Option Addr)(nm cm nc cc:Nat)(mask:List Int)(cs:List bw)(w:ac)(ah:Rd w 1 Am nm (bF mask))(hc:Rd w 5 Ac nc (cr cs))(hnm:nm*8<=140737488351232)(hnc:nc*40<=140737488351232)(hAm:Am=F->cm=0)(hAc:Ac=F->cc=0):
  Calls aj 14 #[aq #[B o W, B o H, O Am nm cm, O Ac nc cc]] w fun e Z=>∃N V M T,e= .returned (aq #[B o W, B o H, O N nm V, O M nc T])/\Z.ownsRow w.heap.size 3 1 (O N nm V) nm (bF mask)/\Z.ownsRow w.heap.size 129 5 (O M nc T) nc (cr cs)/\Below w.heap.size w Z:=by
 have bg:=aW (aQ w (Y #[B o W, B o H, O Am nm cm, O Ac nc cc] 25)) (Y #[B o 0, B o 0, O F 0 0, O F 0 0] 25);have E:=aQ (w.alloc (Y #[B o W, B o H, O Am nm cm, O Ac nc cc] 25)) (Y #[B o 0, B o 0, O F 0 0, O F 0 0] 25);have K:=aN (aV w (Y #[B o W, B o H, O Am nm cm, O Ac nc cc] 25)) (Y #[B o 0, B o 0, O F 0 0, O F 0 0] 25);rw[World.size_alloc] at E;obtain⟨av,ar,I,aA,ao⟩:=dY (ah.below K) hc bg E K;have af:=am bg;have ag:=am E;clear ah hc bg E K;have bm:=aB I.out 2;have al:=aB I.out 3;simp only[cP,cU,cO] at bm al;go_in
 go_wp2_with (first
  | (at_builtin;refine mE Tryz.underlying22 mT rfl (by decide) rfl _ _ rfl rfl Am nm cm (bF mask) rfl hAm av.out (we _) hnm (by omega) ?_;intro v1 G s A;obtain⟨b,c1,aF,_,_⟩:=dd s;subst aF;have i:=R (aG I.out A af);have J:=R (aG aA.out A ag);have P:=R (ax ao.out A);have aw:=R s;have f1:=br i.out;have ak:=am i.out;have aC:G.cell? ⟨w.heap.size,2,F⟩=D (O Am nm cm):=aB i.out 2;have aD:G.cell? ⟨w.heap.size,3,F⟩=D (O Ac nc cc):=aB i.out 3;clear s A bm al)
  | (at_builtin;refine mE Tryz.underlying23 tc rfl (by decide) rfl _ _ rfl rfl Ac nc cc (cr cs) rfl hAc (ar.out.below (P.out.setCell (p:=⟨w.heap.size,2,F⟩) ce _)) (sN _) hnc (by omega) ?_;intro v2 c y r;obtain⟨g,c2,aH,_,_⟩:=dd y;subst aH;have k:=R (aG (bq i.out 2 (O b nm c1)) r (by simpa using ak));have l:=R (aG (eV (p:=⟨w.heap.size,2,F⟩) J.out (by simp) (O b nm c1)) r (by simpa using am J.out));have ap:=R (ax (P.out.setCell (p:=⟨w.heap.size,2,F⟩) ce (O b nm c1)) r);have ay:=R y;have az:=R r;have f2:=br k.out;have aR:=br l.out;have aS:c.cell? ⟨w.heap.size,0,F⟩=D (B o W):=aB k.out 0;have aT:c.cell? ⟨w.heap.size,1,F⟩=D (B o H):=aB k.out 1;have aU:c.cell? ⟨w.heap.size,2,F⟩=D (O b nm c1):=aB k.out 2;have aX:c.cell? ⟨w.heap.size,3,F⟩=D (O Ac nc cc):=aB k.out 3;have aK:c.cell? ⟨w.heap.size+1,0,F⟩=D (B o 0):=aB l.out 0;have aM:c.cell? ⟨w.heap.size+1,1,F⟩=D (B o 0):=aB l.out 1;have aO:c.cell? ⟨w.heap.size+1,2,F⟩=D (O F 0 0):=aB l.out 2;have aP:c.cell? ⟨w.heap.size+1,3,F⟩=D (O F 0 0):=aB l.out 3;clear y r aC aD))
 have L:w.heap.size < ((w.alloc (Y #[B o W, B o H, O Am nm cm, O Ac nc cc] 25)).alloc (Y #[B o 0, B o 0, O F 0 0, O F 0 0] 25)).heap.size:=af;have aJ:w.heap.size+1 < ((w.alloc (Y #[B o W, B o H, O Am nm cm, O Ac nc cc] 25)).alloc (Y #[B o 0, B o 0, O F 0 0, O F 0 0] 25)).heap.size:=ag;have ai:w.heap.size < (G.setCell ⟨w.heap.size,2,F⟩ (O b nm c1)).heap.size:=by simpa using ak
 have aI:w.heap.size+1 < (G.setCell ⟨w.heap.size,2,F⟩ (O b nm c1)).heap.size:=by simpa using am J.out
 have ab:∀{z:Nat} {e:TypeId} {aL n:Nat} {v:ae} {an:List ae},w.heap.size < z->w.heap.size+1 < z->c.ownsRow z e aL v n an->(((((c.setCell ⟨w.heap.size,3,F⟩ (O g nc c2)).setCell ⟨w.heap.size+1,0,F⟩ (B o W)).setCell ⟨w.heap.size+1,1,F⟩ (B o H)).setCell ⟨w.heap.size+1,2,F⟩ (O b nm c1)).setCell ⟨w.heap.size+1,3,F⟩ (O g nc c2)).ownsRow z e aL v n an:=
  fun h0 h1 h=>ownsRow_setCell_below (ownsRow_setCell_below (ownsRow_setCell_below (ownsRow_setCell_below (ownsRow_setCell_below h (a:=⟨w.heap.size,3,F⟩) h0 _) (a:=⟨w.heap.size+1,0,F⟩) h1 _) (a:=⟨w.heap.size+1,1,F⟩) h1 _) (a:=⟨w.heap.size+1,2,F⟩) h1 _) (a:=⟨w.heap.size+1,3,F⟩) h1 _
 have s:=ab L aJ (bo (ownsRow_setCell_below aw.out (a:=⟨w.heap.size,2,F⟩) L (O b nm c1)) az.out);have y:=ab ai aI ay.out;have aE:=((((ap.out.setCell (p:=⟨w.heap.size,3,F⟩) ce (O g nc c2)).setCell (p:=⟨w.heap.size+1,0,F⟩) (iW _) (B o W)).setCell (p:=⟨w.heap.size+1,1,F⟩) (iW _) (B o H)).setCell (p:=⟨w.heap.size+1,2,F⟩) (iW _) (O b nm c1)).setCell (p:=⟨w.heap.size+1,3,F⟩) (iW _) (O g nc c2);exact cT (v:= aq #[B o W, B o H, O b nm c1, O g nc c2]) (by simp[results,Tryz.results14,go_sem,aK,aM,aO,aP]) rfl ⟨b,c1,g,c2,rfl,dn s (Nat.le_of_lt L),dn y (Nat.le_of_lt ai),aE⟩
end
section
open Go.RowKit Go.Maps
theorem vs:∀{aE:List aP} {bx:List ae} {i:Nat} (s:aP) (v:ae),i < aE.length->bx.length=aE.length->((((fG aE bx).set (i*4) (B o s.1.1)).set (i*4+1) (B o s.1.2.1)).set (i*4+2) (B o s.1.2.2)).set (i*4+3) v=fG (aE.set i s) (bx.set i v)
 | [],_,i,s,v,h,_=>by simp at h
 | _::_, [],i,s,v,_,h=>by simp at h
 | a::aE,u::bx,0,s,v,_,_=>by simp[fG]
 | a::aE,u::bx,i+1,s,v,h1,ab=>by
  have:=vs (aE:=aE) (bx:=bx) (i:=i) s v (by simpa using h1) (by simpa using ab);rw[show(i+1)*4=i*4+1+1+1+1 by omega];simp only[fG,ba];rw[this]
theorem vt:∀{aE:List aP} {bx:List ae} {i:Nat} {x:ah} {l eG:List ah} (v:ae),aE[i]? =D (x,l)->bx.length=aE.length->(fG aE bx).set (i*4+3) v=fG (aE.set i (x,eG)) (bx.set i v)
 | [],_,i,_,_,_,v,h,_=>by simp at h
 | _::_, [],i,_,_,_,v,_,h=>by simp at h
 | a::aE,u::bx,0,x,l,eG,v,h1,_=>by
  simp at h1;subst h1;simp[fG]
 | a::aE,u::bx,i+1,x,l,eG,v,h1,ab=>by
  have:=vt (aE:=aE) (bx:=bx) (i:=i) (x:=x) (l:=l) (eG:=eG) v (by simpa using h1) (by simpa using ab);rw[show(i+1)*4+3=i*4+3+1+1+1+1 by omega];simp only[fG,ba];rw[this]
section
variable {w wr:ac} {E y n c:Nat} {sts:List aP}
theorem dv.at_(h:dv w E (O (D ⟨y,0,F⟩) n c) sts){i:Nat}{s:aP}(z:sts[i]? =D s):∃u,w.cell? ⟨y,i*4,F⟩=D (B o s.1.1)/\w.cell? ⟨y,i*4+1,F⟩=D (B o s.1.2.1)/\w.cell? ⟨y,i*4+2,F⟩=D (B o s.1.2.2)/\w.cell? ⟨y,i*4+3,F⟩=D u/\w.ownsRow E 53 3 u s.2.length (bn s.2):=by
 obtain⟨bx,h0,h1,ab⟩:=h.ex;obtain⟨u,ag,az⟩:=ab i s z;have al:=(bM.1 z).1;obtain⟨A,T,hA,_,_⟩:=dd h1;cases hA
 obtain⟨b,aw,e,_,hc⟩:=(Rd.dB h1).2 (by omega);cases e
 obtain⟨af,ap,ak,ai⟩:=nl z ag;refine⟨u, ?_, ?_, ?_, ?_,az⟩;·have:=hc _ _ af;rwa [fT] at this
 ·have:=hc _ _ ap;rwa [fT] at this
 ·have:=hc _ _ ak;rwa [fT] at this
 ·have:=hc _ _ ai;rwa [fT] at this
theorem dv.bT(h:dv w E (O (D ⟨y,0,F⟩) n c) sts):∃cs,w.heap[y]? =D (.cells cs 56 (0,0))/\E<=y:=by
 obtain⟨bx,h0,h1,ab⟩:=h.ex;obtain⟨cs,hc⟩:=im h1 y rfl;exact⟨cs,hc,(h1.lt y rfl).1⟩
theorem dv.pJ(h:dv w E (O (D ⟨y,0,F⟩) n c) sts){i:Nat}(al:i < sts.length)(s:aP){u:ae}(I:w.ownsRow E 53 3 u s.2.length (bn s.2)):
  dv ((((w.setCell ⟨y,i*4,F⟩ (B o s.1.1)).setCell ⟨y,i*4+1,F⟩ (B o s.1.2.1)).setCell ⟨y,i*4+2,F⟩ (B o s.1.2.2)).setCell ⟨y,i*4+3,F⟩ u) E (O (D ⟨y,0,F⟩) n c) (sts.set i s)/\((((w.setCell ⟨y,i*4,F⟩ (B o s.1.1)).setCell ⟨y,i*4+1,F⟩ (B o s.1.2.1)).setCell ⟨y,i*4+2,F⟩ (B o s.1.2.2)).setCell ⟨y,i*4+3,F⟩ u).cell? ⟨y,i*4+3,F⟩=D u:=by
 obtain⟨bx,h0,h1,ab⟩:=h.ex;obtain⟨cs,hc⟩:=im h1 y rfl;obtain⟨A,T,hA,_,_⟩:=dd h1;cases hA
 have fX:∀{v:ae} {m:Nat} {l:List ae},w.ownsRow E 53 3 v m l->((((w.setCell ⟨y,i*4,F⟩ (B o s.1.1)).setCell ⟨y,i*4+1,F⟩ (B o s.1.2.1)).setCell ⟨y,i*4+2,F⟩ (B o s.1.2.2)).setCell ⟨y,i*4+3,F⟩ u).ownsRow E 53 3 v m l:=fun av=>
  e0 (e0 (e0 (e0 av hc (by decide) _ _) (bq hc _ _) (by decide) _ _) (bq (bq hc _ _) _ _) (by decide) _ _) (bq (bq (bq hc _ _) _ _) _ _) (by decide) _ _
 have r:=((((h1.stored (i*4) (B o s.1.1)).1.stored (i*4+1) (B o s.1.2.1)).1.stored (i*4+2) (B o s.1.2.2)).1.stored (i*4+3) u).1;rw[vs s u al h0] at r;have an:=(Rd.dB r).2 (by omega);obtain⟨b,aw,e,_,am⟩:=an;cases e
 have V:=am _ _ (nl (aE:=sts.set i s) (bx:=bx.set i u) (e4 al) (e4 (by omega))).2.2.2;rw[fT] at V;refine⟨⟨bx.set i u,by simp[h0],by rw[List.length_set];exact r,fun j N z=> ?_⟩,V⟩;by_cases e:i=j
 ·subst e
  rw[e4 al] at z;cases z
  exact⟨u,e4 (by omega),fX I⟩
 rw[fI e] at z;obtain⟨v,ag,az⟩:=ab j N z;exact⟨v,by rw[fI e];exact ag,fX az⟩
theorem dv.rK(h:dv w E (O (D ⟨y,0,F⟩) n c) sts){i:Nat}{x:ah}{l eG:List ah}(L:sts[i]? =D (x,l)){u:ae}(I:w.ownsRow E 53 3 u eG.length (bn eG)):
  dv (w.setCell ⟨y,i*4+3,F⟩ u) E (O (D ⟨y,0,F⟩) n c) (sts.set i (x,eG)):=by
 obtain⟨bx,h0,h1,ab⟩:=h.ex;have al:=(bM.1 L).1;obtain⟨cs,hc⟩:=im h1 y rfl;obtain⟨A,T,hA,_,_⟩:=dd h1;cases hA
 have r:=(h1.stored (i*4+3) u).1;rw[vt (eG:=eG) u L h0] at r;refine⟨bx.set i u,by simp[h0],by rw[List.length_set];exact r,fun j N z=> ?_⟩;by_cases e:i=j
 ·subst e
  rw[e4 al] at z;cases z
  exact⟨u,e4 (by omega),e0 I hc (by decide) _ _⟩
 rw[fI e] at z;obtain⟨v,ag,az⟩:=ab j N z;exact⟨v,by rw[fI e];exact ag,e0 az hc (by decide) _ _⟩
end
section
variable {w wr Z:ac} {g y n c:Nat} {W H:Int} {M C P K:ae} {sts:List aP}
theorem da.oy{R:ac}{aF aJ:Nat}(h:da w R aF aJ){b:Nat}(G:w.heap.size<=b)(i:Nat)(v:ae):da w (R.setCell ⟨b,i,F⟩ v) aF aJ:=
 ⟨h.os,h.tape,h.output,by simpa using h.size,fun k ao h1 ab=>(Below.heap_setCell R ⟨b,i,F⟩ v k (by simp only;omega)).trans (h.bT k ao h1 ab)⟩
theorem eU.pJ(h:eU w g W H M C P K (O (D ⟨y,0,F⟩) n c) sts wr){i:Nat}(al:i < sts.length)(s:aP){u:ae}(I:wr.ownsRow w.heap.size 53 3 u s.2.length (bn s.2)):
  eU w g W H M C P K (O (D ⟨y,0,F⟩) n c) (sts.set i s) ((((wr.setCell ⟨y,i*4,F⟩ (B o s.1.1)).setCell ⟨y,i*4+1,F⟩ (B o s.1.2.1)).setCell ⟨y,i*4+2,F⟩ (B o s.1.2.2)).setCell ⟨y,i*4+3,F⟩ u):=by
 obtain⟨cs,hc,G⟩:=h.dS.bT;have ar:=h.lt;have J:g≠y:=by omega
 exact⟨(((h.cb.oy G _ _).oy G _ _).oy G _ _).oy G _ _,eV (eV (eV (eV h.bT J _) J _) J _) J _,(h.dS.pJ al s I).1,h.lt⟩
theorem eU.rK(h:eU w g W H M C P K (O (D ⟨y,0,F⟩) n c) sts wr){i:Nat}{x:ah}{l eG:List ah}(L:sts[i]? =D (x,l)){u:ae}(I:wr.ownsRow w.heap.size 53 3 u eG.length (bn eG)):
  eU w g W H M C P K (O (D ⟨y,0,F⟩) n c) (sts.set i (x,eG)) (wr.setCell ⟨y,i*4+3,F⟩ u):=by
 obtain⟨cs,hc,G⟩:=h.dS.bT;have ar:=h.lt;have J:g≠y:=by omega
 exact⟨h.cb.oy G _ _,eV h.bT J _,h.dS.rK L I,h.lt⟩
end
end
section
set_option maxRecDepth 100000
open Go.RowKit Go.Maps
variable {sts:List aP}{L l:List ah}{c j n q:Nat}{A:Option Addr}{s z:aP}{a t:ah}{g:Type}{w:ac}
theorem CQ{T E:TypeId}{z:ae}{aL bytes:Nat}(bi:Tryz.prog.underlying T=D (.slice E))(aK:(Tryz.prog.info? E).map (fun i=>(i.zero,i.size,i.bytes))=D (D z,aL,bytes))
  (aT:z.cells.size=aL) (hsz:0 < aL)
   {ops:Array de} {af:de} {a:Act} {K:Act->ac->Prop} {aH:Exit->Act->ac->Prop} {aJ:Prop} (aM:af.guard=F) (s x:Operand)
  (aE:af.op= .call {callee:= .builtin .append,args:=#[s,x],argTypes:=#[T,T]})
  (N:Nat) (v:ae) (n:Nat) (ar J:List ae) (r:a.eval s=v) (an:w.ownsRow N E aL v n ar) (aD:N<=w.heap.size)
  (A:Option Addr) (m c:Nat) (aF:a.eval x= O A m c) (hA:A=F->c=0) (am:Rd w aL A m J) (h1:∀u ∈ J,u.oneCell'=S) (hn:(n+m)*bytes<=140737488351232) (aV:n+m<=140737488351232)
  (h:∀a8 Z,Z.ownsRow N E aL a8 (n+m) (ar++J)->Below N w Z->K (a.put af.dst a8) Z):
  if eP af (yielded ops a.tmps)=S then Oper.wp aj af a w K aH else aJ:=by
 have aN:eP af (yielded ops a.tmps)=S:=by simp[eP,aM]
 rw[if_pos aN];obtain⟨aG,al,aO,aR,aS⟩:=info_parts aK
 cases A with
 | some aw=>
  have ay:∀j u,J[j]? =D u->w.cell? (aw.add j)=D u:=by
   intro j u ao;rcases Nat.eq_zero_or_pos m with h0 | h0
   ·subst h0
    have:J= []:=gm.1 (by simpa using am.1);subst this;simp at ao
   obtain⟨b,M,e,_,hc⟩:=am.2 h0;injection e with e
   subst e;rw[fW];exact hc j u ao
  obtain⟨a8,Z,aB,ab,ag,_,aC⟩:=run_append_own_at (P:=aj) w N T af.type E aG z aL bytes bi al aO aR aS aT hsz v n ar an aw m c J am.1 ay h1 (by simp only[maxLen];omega) (by omega) aD;unfold Oper.wp execOp;simp only[aE,resolve,invoke,builtin,Sem.run_bind,Sem.run_pure,Result.andThen_ok,List.map_toArray,List.map_cons,List.map_nil,r,aF,aB];exact h a8 Z ab (aX.grown ag aD (fun k I=>(an.lt k I).1))
 | none=>
  have ai:m=0:=by
   rcases Nat.eq_zero_or_pos m with ai | ai
   ·exact ai
   obtain⟨b,M,e,_⟩:=am.2 ai;cases e
  subst ai;have hc:=hA rfl;subst hc;have ay:J= []:=gm.1 (by simpa using am.1);subst ay;have aB:=run_append_owned_none (P:=aj) (w:=w) N T af.type E aG aL bi al v n ar an;unfold Oper.wp;simp[execOp,aE,resolve,invoke,builtin,r,aF,aB,Result.andThen];exact h _ _ (by simpa using an) aX
theorem yi(R a:ah):db [(R.1,a.1),(R.2.1,a.2.1),(R.2.2,a.2.2)]=au (R=a):=by
 obtain⟨x,y,k⟩:=R;obtain⟨aZ,a0,aW⟩:=a;rw[Bool.eq_iff_iff];simp[db]
theorem p3{p:g->Bool}:∀{l:List g} {k:Nat} {s:g},l[k]? =D s->p s=S->k<=(l.takeWhile p).length->k+1<=(l.takeWhile p).length
 | [],k,s,h,_,_=>by simp at h
 | a::l,0,s,h,hp,_=>by simp at h;subst h;simp[nK,hp]
 | a::l,k+1,s,h,hp,I=>by
  cases V:p a with
  | true=>
   simp only[nK,V,if_true,fJ] at I |-;have:=p3 (l:=l) (by simpa using h) hp (by omega:k<=_);omega
  | false=>simp[nK,V] at I
theorem p4{p:g->Bool}:∀{l:List g} {k:Nat} {s:g},l[k]? =D s->p s=Q->k<=(l.takeWhile p).length->(l.takeWhile p).length=k
 | [],k,s,h,_,_=>by simp at h
 | a::l,0,s,h,hp,_=>by simp at h;subst h;simp[nK,hp]
 | a::l,k+1,s,h,hp,I=>by
  cases V:p a with
  | true=>
   simp only[nK,V,if_true,fJ] at I |-;have:=p4 (l:=l) (by simpa using h) hp (by omega:k<=_);omega
  | false=>simp[nK,V] at I
theorem p2(p:g->Bool)(l:List g):(l.takeWhile p).length<=l.length:=by
 have h:=congrArg List.length (oH (p:=p) (l:=l));rw[gL] at h;omega
theorem Dm(p:g->Bool)(l:List g):l.take (l.takeWhile p).length=l.takeWhile p:=by
 have h:=oH (p:=p) (l:=l);generalize l.takeWhile p=a at h |-;generalize l.dropWhile p=b at h;rw[<-h,List.take_left]
theorem Dl(p:g->Bool)(l:List g):l.drop (l.takeWhile p).length=l.dropWhile p:=by
 have h:=oH (p:=p) (l:=l);generalize l.takeWhile p=a at h |-;generalize l.dropWhile p=b at h |-;rw[<-h,List.drop_left]
noncomputable def e9(a:ah)(sts:List aP):Nat:=(sts.takeWhile fun s=>hI s.1 a).length
noncomputable def h4(a:ah)(sts:List aP):Bool:=match sts[e9 a sts]? with | some s=>au (s.1=a) | none=>Q
noncomputable def fB(a:ah)(sts:List aP):List aP:=if h4 a sts=S then sts else sts.take (e9 a sts)++(a, [])::sts.drop (e9 a sts)
def fC(p:ah->Bool)(l:List ah)(t:ah):List ah:=l.takeWhile p++t::l.dropWhile p
noncomputable def dH(a:ah)(p:ah->Bool)(t:ah)(sts:List aP):List aP:=match (fB a sts)[e9 a sts]? with | some s=>(fB a sts).set (e9 a sts) (a,fC p s.2 t) | none=>sts
def pm(L:List ah)(aI:List Int)(i:Nat)(u:ah):Bool:=au (aI.getD (L.idxOf u) 0 < aI.getD i 0)
noncomputable def d5(L:List ah)(A:Nat->ah)(aI:List Int):Nat->List aP
 | 0=> []
 | n+1=>dH (A n) (pm L aI n) (L.getD n (0,0,0)) (d5 L A aI n)
theorem rl(a:ah)(sts:List aP):e9 a sts<=sts.length:=p2 _ _
theorem yG(h:h4 a sts=S):∃l,sts[e9 a sts]? =D (a,l):=by
 unfold h4 at h
 split at h
 ·next s r=>exact⟨s.2,by rw[r,<-of_decide_eq_true h]⟩
 ·cases h
theorem yI(h:sts[e9 a sts]? =D s):h4 a sts=au (s.1=a):=by
 unfold h4;rw[h]
theorem yH(h:e9 a sts=sts.length):h4 a sts=Q:=by
 unfold h4;rw[List.getElem?_eq_none (by omega)]
theorem tT(a:ah)(sts:List aP):∃l,(fB a sts)[e9 a sts]? =D (a,l):=by
 unfold fB;split;·next h=>exact yG h
 have h:=rl a sts;exact⟨[],by rw[kK (by rw[iU];omega),iU,Nat.min_eq_left h,mz];rfl⟩
theorem tO{p:ah->Bool}(h:(fB a sts)[e9 a sts]? =D (a,l)):dH a p t sts=(fB a sts).set (e9 a sts) (a,fC p l t):=by
 unfold dH;rw[h]
structure lB(L:List ah)(n:Nat)(sts:List aP):Prop where
 len:sts.length<=n
 l0:∀s ∈ sts,s.2.length<=n/\∀u ∈ s.2,u ∈ L
theorem lB.ins(h:lB L n sts)(a:ah):(fB a sts).length<=n+1/\∀s ∈ fB a sts,s.2.length<=n/\∀u ∈ s.2,u ∈ L:=by
 have av:=h.len;unfold fB;split;·exact⟨by omega,h.l0⟩
 refine⟨by simp[iU,ql];omega,fun s r=> ?_⟩;rcases List.mem_append.1 r with h1 | h1
 ·exact h.l0 s (List.mem_of_mem_take h1)
 rcases dC.1 h1 with ab | ab
 ·subst ab;exact⟨by simp,by simp⟩
 ·exact h.l0 s (List.mem_of_mem_drop ab)
theorem tR(p:ah->Bool)(l:List ah)(t:ah):(fC p l t).length=l.length+1:=by
 have h:=congrArg List.length (oH (p:=p) (l:=l));rw[gL] at h;simp only[fC,gL,fJ];omega
theorem zg{p:ah->Bool}{u:ah}:u ∈ fC p l t↔u=t∨u ∈ l:=by
 have h:=oH (p:=p) (l:=l);have:u ∈ l↔u ∈ l.takeWhile p++l.dropWhile p:=by rw[h]
 rw[this];simp only[fC,List.mem_append,dC];constructor
 ·rintro(h | h | h)
  ·exact .inr (.inl h)
  ·exact .inl h
  ·exact .inr (.inr h)
 rintro(h | h | h);·exact .inr (.inl h)
 ·exact .inl h
 ·exact .inr (.inr h)
theorem lB.step(h:lB L n sts)(a:ah)(p:ah->Bool)(ht:t ∈ L):lB L (n+1) (dH a p t sts):=by
 obtain⟨l,av⟩:=tT a sts;obtain⟨h1,ab⟩:=h.ins a;rw[tO av];refine⟨by simpa using h1,fun s r=> ?_⟩;rcases List.mem_or_eq_of_mem_set r with ag | ag
 ·exact⟨by have:=(ab s ag).1;omega,(ab s ag).2⟩
 subst ag;have az:=ab _ (cH av);exact⟨by simp only[tR];have:=az.1;simp only at this;omega,fun u ao=>by
  rcases zg.1 ao with rfl | aC
  ·exact ht
  ·exact az.2 u aC⟩
theorem tM(A:Nat->ah)(r:List Int):∀{n:Nat},n<=L.length->lB L n (d5 L A r n)
 | 0,_=>⟨by simp[d5],by simp[d5]⟩
 | n+1,h=>(tM A r (by omega)).step _ _ (by rw[cf,bb (by omega)];exact List.getElem_mem _)
def hP(z:aP)(sts:List aP)(j:Nat):List aP:=(sts++ [z]).take (j+1)++sts.drop j
theorem Dt(z:aP)(sts:List aP):hP z sts sts.length=sts++ [z]:=by
 unfold hP;rw[List.drop_length,List.append_nil,List.take_of_length_le (by simp)]
theorem p5(h:j<=sts.length):(hP z sts j).length=sts.length+1:=by
 unfold hP;simp only[gL,iU,ql,fJ,List.length_nil];omega
theorem Dr(h:sts[j]? =D s):(hP z sts (j+1))[j]? =D s:=by
 have G:=(bM.1 h).1;unfold hP;rw[hS (by simp;omega),List.getElem?_take_of_lt (by omega),hS G,h]
theorem Du(h:sts[j]? =D s):(hP z sts (j+1)).set (j+1) s=hP z sts j:=by
 have G:=(bM.1 h).1;have av:((sts++ [z]).take (j+1+1)).length=j+2:=by simp;omega
 unfold hP;rw[List.set_append_left _ _ (by omega),List.drop_eq_getElem_cons (i:=j) G,show sts[j]=s by have:=bb G;rw[h] at this;exact(cn this).symm,hT (i:=j+1)];have ab:(sts++ [z])[j+1]? =D ((sts++ [z])[j+1]'(by simp;omega)):=bb _;rw[ab];have ag:((sts++ [z]).take (j+1)).length=j+1:=by simp;omega
 rw[qq _ _ (by omega),ag,mz];simp
theorem Ds{x:aP}{k:Nat}(h:k<=sts.length):(hP z sts k).set k x=sts.take k++x::sts.drop k:=by
 unfold hP;have ab:(sts++ [z])[k]? =D ((sts++ [z])[k]'(by simp;omega)):=bb _;rw[hT,ab,List.take_append_of_le_length h,List.append_assoc,qq _ _ (by rw[iU];omega),iU,Nat.min_eq_left h,mz];rfl
theorem BO(h:Rd w 3 A l.length (bn l))(aA:q<=l.length):Rd w 3 A q (bn (l.take q)):=by
 have e:bn l=bn (l.take q)++bn (l.drop q):=by rw[<-jl,qr]
 refine⟨by rw[iw];simp;omega,fun h0=> ?_⟩;obtain⟨b,M,ap,ak,ax⟩:=h.2 (by omega);refine⟨b,M,ap,ak,fun j u G=>ax j u ?_⟩;rw[e,hS (bM.1 G).1];exact G
theorem BL{b M:Nat}(h:Rd w 3 (D ⟨b,M,F⟩) l.length (bn l))(aA:q<=l.length):Rd w 3 (D ⟨b,M+q*3,F⟩) (l.length-q) (bn (l.drop q)):=by
 have e:bn l=bn (l.take q)++bn (l.drop q):=by rw[<-jl,qr]
 refine⟨by rw[iw,ql],fun h0=> ?_⟩;obtain⟨aU,aY,ap,ak,ax⟩:=h.2 (by omega);cases ap
 refine⟨b,_,rfl,ak,fun j u G=> ?_⟩;have av:(bn (l.take q)).length=q*3:=by rw[iw,iU];omega
 have:=ax (q*3+j) u (by rw[e,kK (by omega),av,Nat.add_sub_cancel_left];exact G);rw[<-Nat.add_assoc] at this;exact this
theorem BM(h:Rd w 3 A l.length (bn l))(aA:q<=l.length)(hc:l.length<=c):Rd w 3 (if c=q then A else Option.map (fun x=>x.add (q*3)) A) (l.length-q) (bn (l.drop q)):=by
 rcases Nat.lt_or_ge q l.length with h0 | h0
 ·obtain⟨b,M,ap,_,_⟩:=h.2 (by omega)
  subst ap;rw[if_neg (by omega)];simp only[DI,fW];exact BL h aA
 ·exact⟨by rw[iw,ql],fun h1=>by omega⟩
theorem BN(h:A=F->c=0):(if c=q then A else Option.map (fun x=>x.add (q*3)) A)=F->c-q=0:=by
 intro e
 split at e
 ·omega
 cases A with
 | none=>have:=h rfl;omega
 | some aw=>simp at e
theorem zh{p:ah->Bool}(hn:n=(l.takeWhile p).length):(bn (l.take n)++ [B o t.1, B o t.2.1, B o t.2.2])++bn (l.drop n)=bn (fC p l t):=by
 subst hn;rw[Dm,Dl,fC,jl,show bn (t::l.dropWhile p)= [B o t.1, B o t.2.1, B o t.2.2]++bn (l.dropWhile p) from rfl,List.append_assoc]
end
section
open Go.RowKit Go.Maps
variable {aI:List Int}{L bh aE:List ah}{t:ah}
theorem yX(a:ah)(p:ah->Bool)(t:ah):dH a p t []= [(a, [t])]:=by simp[dH,fB,h4,e9,fC]
theorem yW(a:ah)(p:ah->Bool)(t:ah)(s:aP)(r:List aP):dH a p t (s::r)=if hI s.1 a=S then s::dH a p t r else if s.1=a then(a,fC p s.2 t)::r else(a, [t])::s::r:=by
 by_cases h:hI s.1 a=S
 ·rw[if_pos h]
  have V:e9 a (s::r)=e9 a r+1:=by
   unfold e9;rw[wD (p:=fun s:aP=>hI s.1 a) h];rfl
  have hh:h4 a (s::r)=h4 a r:=by
   unfold h4;rw[V,cO]
  have al:fB a (s::r)=s::fB a r:=by
   unfold fB;rw[hh,V];split;·rfl
   ·rfl
  unfold dH;rw[al,V,cO]
  split <;> simp
 rw[if_neg h];have V:e9 a (s::r)=0:=by
  unfold e9;rw[wC (p:=fun s:aP=>hI s.1 a) h];rfl
 have hh:h4 a (s::r)=au (s.1=a):=by
  unfold h4;rw[V];rfl
 unfold dH fB;rw[hh,V];by_cases e:s.1=a
 ·rw[if_pos e,if_pos (by simp[e])]
  simp
 rw[if_neg e,if_neg (by simp[e])];simp[fC]
theorem tQ(p:ah->Bool)(t u:ah)(l:List ah):fC p (u::l) t=if p u=S then u::fC p l t else t::u::l:=by
 unfold fC;split;·next h=>rw[wD h,List.dropWhile_cons_of_pos h];rfl
 ·next h=>rw[wC h,List.dropWhile_cons_of_neg h];rfl
theorem pf(p:ah->Bool)(t u:ah):∀l:List ah,u ∈ fC p l t↔u=t∨u ∈ l
 | []=>by simp[fC]
 | a::l=>by
  rw[tQ];split
  ·rw[dC,pf p t u l,dC]
   exact⟨fun h=>h.elim (fun e=> .inr (.inl e)) (fun h=>h.elim .inl fun h=> .inr (.inr h)),fun h=>h.elim (fun e=> .inr (.inl e)) (fun h=>h.elim .inl fun h=> .inr (.inr h))⟩
  ·rw[dC]
def oS(f:ah->Int)(l:List ah):Prop:=l.Pairwise fun u v=>f u < f v
theorem tS{f:ah->Int}{p:ah->Bool}:∀{l:List ah},(∀u ∈ l,p u=au (f u < f t)/\f u≠f t)->oS f l->oS f (fC p l t)
 | [],_,_=>qp _ _
 | a::l,hp,h=>by
  obtain⟨h1,ab⟩:=j8.1 h;have J:=hp a (hi);rw[tQ];split
  ·next g=>
   rw[J.1,decide_eq_true_eq] at g;refine j8.2 ⟨fun y I=> ?_,tS (fun u E=>hp u (iV _ E)) ab⟩;rcases(pf p t y l).1 I with rfl | I
   ·exact g
   ·exact h1 y I
  next g=>
  rw[J.1,decide_eq_true_eq] at g;have:=J.2;refine j8.2 ⟨fun y I=> ?_,h⟩;rcases dC.1 I with rfl | I
  ·omega
  have:=h1 y I;omega
structure du(f:ah->Int)(P:ah->ah->Prop)(sts:List aP):Prop where
 lt:sts.Pairwise fun s r=>c3 s.1 r.1
 up:∀s ∈ sts,oS f s.2
 mem:∀s ∈ sts,∀u,u ∈ s.2↔P s.1 u
 has:∀a u,P a u->∃s ∈ sts,s.1=a
 ne:∀s ∈ sts,s.2≠ []
theorem du.step{f:ah->Int}{a:ah}{p:ah->Bool}:∀{sts:List aP} {P:ah->ah->Prop},du f P sts->(∀u,P a u->p u=au (f u < f t)/\f u≠f t)->du f (fun b u=>P b u∨b=a/\u=t) (dH a p t sts)
 | [],P,h,hp=>by
  rw[yX];refine⟨qp _ _, ?_, ?_, ?_, ?_⟩
  ·intro s z
   rw[iy] at z;subst z;exact qp _ _
  ·intro s z u
   rw[iy] at z;subst z;simp only[iy];constructor;·exact fun e=> .inr ⟨trivial,e⟩
   rintro(g | g)
   ·obtain⟨s,z,_⟩:=h.has _ _ g
    simp at z
   ·exact g.2
  ·rintro b u (g | g)
   ·obtain⟨s,z,_⟩:=h.has _ _ g
    simp at z
   ·exact⟨(a, [t]),by simp,g.1.symm⟩
  intro s z;rw[iy] at z;subst z;simp
 | s::r,P,h,hp=>by
  obtain⟨h1,ab⟩:=j8.1 h.lt;have ht:du f (fun b u=>P b u/\b≠s.1) r:=by
   refine⟨ab,fun x k=>h.up x (iV _ k),fun x k u=> ?_,fun b u g=> ?_,fun x k=>h.ne x (iV _ k)⟩
   ·rw[h.mem x (iV _ k)]
    refine⟨fun g=>⟨g,fun e=> ?_⟩,fun g=>g.1⟩;have:=h1 x k;rw[e] at this;exact gg _ this
   obtain⟨x,k,e⟩:=h.has _ _ g.1;rcases dC.1 k with rfl | k
   ·exact absurd e.symm g.2
   ·exact⟨x,k,e⟩
  rw[yW];split
  ·next g=>
   have ak:a≠s.1:=fun e=>by
    rw[e] at g;exact gg _ (od.1 g)
   have M:=du.step ht (fun u E=>hp u E.1);have T:∀x ∈ dH a p t r,c3 s.1 x.1:=by
    intro x k;obtain⟨u,E⟩:=qj _ (M.ne x k);rcases(M.mem x k u).1 E with q | q
    ·obtain⟨y,I,e⟩:=ht.has _ _ q
     rw[<-e];exact h1 y I
    rw[q.1];exact od.1 g
   refine⟨j8.2 ⟨T,M.lt⟩, ?_, ?_, ?_, ?_⟩
   ·intro x k
    rcases dC.1 k with rfl | k
    ·exact h.up _ (hi)
    ·exact M.up x k
   ·intro x k u
    rcases dC.1 k with rfl | k
    ·rw[h.mem _ (hi)]
     exact⟨.inl,fun q=>q.elim id fun q=>absurd q.1.symm ak⟩
    rw[M.mem x k];refine⟨fun q=>q.elim (fun q=> .inl q.1) .inr,fun q=>q.elim (fun q=> .inl ⟨q,fun e=> ?_⟩) .inr⟩;have:=T x k;rw[e] at this;exact gg _ this
   ·rintro b u (q | q)
    ·obtain⟨x,k,e⟩:=h.has _ _ q
     rcases dC.1 k with rfl | k
     ·exact⟨x,hi,e⟩
     have N:b≠s.1:=fun ai=>by
      have:=h1 x k;rw[e,ai] at this;exact gg _ this
     obtain⟨y,I,e⟩:=M.has b u (.inl ⟨q,N⟩);exact⟨y,iV _ I,e⟩
    obtain⟨y,I,e⟩:=M.has b u (.inr q);exact⟨y,iV _ I,e⟩
   intro x k;rcases dC.1 k with rfl | k
   ·exact h.ne _ (hi)
   ·exact M.ne x k
  next g=>
  split
  ·next e=>
   subst e;have z:=h.mem s (hi);refine⟨j8.2 ⟨h1,ab⟩, ?_, ?_, ?_, ?_⟩
   ·intro x k
    rcases dC.1 k with rfl | k
    ·exact tS (fun u E=>hp u ((z u).1 E)) (h.up s (hi))
    ·exact ht.up x k
   ·intro x k u
    rcases dC.1 k with rfl | k
    ·simp only[pf,z]
     exact⟨fun q=>q.elim (fun e=> .inr ⟨trivial,e⟩) .inl,fun q=>q.elim .inr fun q=> .inl q.2⟩
    rw[h.mem x (iV _ k)];refine⟨.inl,fun q=>q.elim id fun q=> ?_⟩;have:=h1 x k;rw[q.1] at this;exact absurd this (gg _)
   ·rintro b u (q | q)
    ·obtain⟨x,k,e⟩:=h.has _ _ q
     rcases dC.1 k with rfl | k
     ·exact⟨_,hi,e⟩
     ·exact⟨x,iV _ k,e⟩
    ·exact⟨_,hi,q.1.symm⟩
   intro x k;rcases dC.1 k with rfl | k
   ·intro e
    have:t ∈ fC p s.2 t:=(pf p t t s.2).2 (.inl rfl);rw[show fC p s.2 t= [] from e] at this;simp at this
   ·exact ht.ne x k
  next e=>
  have ap:c3 a s.1:=by
   rcases r1 s.1 a with q | q | q
   ·exact absurd (od.2 q) g
   ·exact absurd q e
   ·exact q
  have hall:∀x ∈ s::r,c3 a x.1:=by
   intro x k;rcases dC.1 k with rfl | k
   ·exact ap
   ·exact nw ap (h1 x k)
  have ax:∀u,¬P a u:=by
   intro u q;obtain⟨x,k,ai⟩:=h.has _ _ q;have:=hall x k;rw[ai] at this;exact gg _ this
  refine⟨j8.2 ⟨hall,h.lt⟩, ?_, ?_, ?_, ?_⟩
  ·intro x k
   rcases dC.1 k with rfl | k
   ·exact qp _ _
   ·exact h.up x k
  ·intro x k u
   rcases dC.1 k with rfl | k
   ·simp only[iy]
    exact⟨fun e=> .inr ⟨trivial,e⟩,fun q=>q.elim (fun q=>absurd q (ax u)) (·.2)⟩
   rw[h.mem x k];refine⟨.inl,fun q=>q.elim id fun q=> ?_⟩;have:=hall x k;rw[q.1] at this;exact absurd this (gg _)
  ·rintro b u (q | q)
   ·obtain⟨x,k,e⟩:=h.has _ _ q
    exact⟨x,iV _ k,e⟩
   ·exact⟨_,hi,q.1.symm⟩
  intro x k;rcases dC.1 k with rfl | k
  ·simp
  ·exact h.ne x k
theorem du.s8{f:ah->Int}{P an:ah->ah->Prop}{sts:List aP}(h:du f P sts)(ao:∀a u,P a u↔an a u):du f an sts:=
 ⟨h.lt,h.up,fun s z u=>(h.mem s z u).trans (ao _ _),fun a u q=>h.has a u ((ao _ _).2 q),h.ne⟩
theorem du.eq{f:ah->Int}{P:ah->ah->Prop}{a b:List aP}(J:du f P a)(N:du f P b):a=b:=by
 have key:∀{a b:List aP},du f P a->du f P b->∀s ∈ a,s ∈ b:=by
  intro a b J N s z;obtain⟨u,E⟩:=qj _ (J.ne s z);obtain⟨r,am,e⟩:=N.has _ _ ((J.mem s z u).1 E);have:s=r:=by
   refine Prod.ext e.symm ?_;refine o6 (lt:=fun u v=>f u < f v) (fun a=>by omega) (fun a b c=>by omega) (J.up s z) (N.up r am) fun x=> ?_;rw[J.mem s z,N.mem r am,e]
  rw[this];exact am
 exact o6 (lt:=fun s r:aP=>c3 s.1 r.1) (fun s=>gg _) (fun s r q=>nw) J.lt N.lt fun s=>⟨key J N s,key N J s⟩
theorem re{A:Nat->ah}(hnd:L.Nodup)(R:∀i j,i < L.length->j < L.length->i≠j->A i=A j->aI.getD i 0≠aI.getD j 0):∀{n:Nat},n<=L.length->du (fun u=>aI.getD (L.idxOf u) 0) (fun a u=>∃i,i < n/\A i=a/\L[i]? =D u) (d5 L A aI n)
 | 0,_=>⟨List.Pairwise.nil,by simp[d5],by simp[d5],by simp,by simp[d5]⟩
 | n+1,h=>by
  have M:=re hnd R (n:=n) (by omega);have ht:L[n]? =D (L.getD n (0,0,0)):=by rw[cf,bb (by omega)];rfl
  refine(M.step (a:=A n) (p:=pm L aI n) (t:=L.getD n (0,0,0)) ?_).s8 fun a u=> ?_
  ·rintro u ⟨i,al,e,E⟩
   rw[jI hnd ht];refine⟨rfl, ?_⟩;rw[jI hnd E];exact R i n (by omega) (by omega) (by omega) e
  constructor
  ·rintro(⟨i,al,e,E⟩ | ⟨e,rfl⟩)
   ·exact⟨i,by omega,e,E⟩
   ·exact⟨n,by omega,e.symm,ht⟩
  rintro⟨i,al,e,E⟩;rcases Nat.lt_or_ge i n with g | g
  ·exact .inl ⟨i,g,e,E⟩
  obtain rfl:i=n:=by omega
  rw[ht] at E;exact .inr ⟨e.symm,(cn E).symm⟩
theorem CR{G:ah->List Nat}(av:bh.length=L.length)(hnd:L.Nodup)(z:aE.Pairwise c3)(T:∀x,x ∈ aE↔x ∈ bh)(Z:∀x,(G x).Perm (eY bh bh.length x))
  (E:∀x,(G x).Pairwise fun i j=>aI.getD i 0<=aI.getD j 0) (R:∀i j,i < L.length->j < L.length->i≠j->bh[i]? =bh[j]? ->aI.getD i 0≠aI.getD j 0):
  du (fun u=>aI.getD (L.idxOf u) 0) (fun a u=>∃i,i < L.length/\bh[i]? =D a/\L[i]? =D u) (fb L G aE):=by
 have af:∀x i,i ∈ G x↔i < bh.length/\bh[i]? =D x:=fun x i=>(Z x).mem_iff.trans k3;have aw:∀x,(G x).Nodup:=fun x=>(Z x).nodup_iff.2 (List.nodup_range.filter _);have K:∀i,i < L.length->L[i]? =D (L.getD i (0,0,0)):=fun i al=>by rw[cf,bb al];rfl
 have key:∀s ∈ fb L G aE,∃x,x ∈ aE/\s=(x,gh L (G x)):=by
  intro s z;obtain⟨x,k,e⟩:=j6.1 z;exact⟨x,k,e.symm⟩
 have ar:∀x u,u ∈ gh L (G x)↔∃i,i < L.length/\bh[i]? =D x/\L[i]? =D u:=by
  intro x u;unfold gh;rw[j6];constructor
  ·rintro⟨i,al,rfl⟩
   have q:=(af x i).1 al;exact⟨i,by omega,q.2,K i (by omega)⟩
  rintro⟨i,al,h1,ab⟩;refine⟨i,(af x i).2 ⟨by omega,h1⟩, ?_⟩;rw[K i al] at ab;exact cn ab
 refine⟨?_, ?_, ?_, ?_, ?_⟩
 ·unfold fb
  rw[List.pairwise_map];exact z
 ·intro s z
  obtain⟨x,k,rfl⟩:=key s z;unfold oS gh;rw[List.pairwise_map];refine List.Pairwise.imp_of_mem ?_ ((E x).and (List.nodup_iff_pairwise_ne.1 (aw x)));intro i j al ag ⟨h1,ab⟩;have ay:=(af x i).1 al;have az:=(af x j).1 ag;simp only[jI hnd (K i (by omega)),jI hnd (K j (by omega))];have:=R i j (by omega) (by omega) ab (ay.2.trans az.2.symm);omega
 ·intro s z u
  obtain⟨x,k,rfl⟩:=key s z;exact ar x u
 ·rintro a u ⟨i,al,h1,ab⟩
  exact⟨(a,gh L (G a)),j6.2 ⟨a,(T a).2 (cH h1),rfl⟩,rfl⟩
 intro s z;obtain⟨x,k,rfl⟩:=key s z;obtain⟨i,al⟩:=fz ((T x).1 k);have aA:=(bM.1 al).1;intro e;have:L.getD i (0,0,0) ∈ gh L (G x):=(ar x _).2 ⟨i,by omega,al,K i (by omega)⟩;rw[show gh L (G x)= [] from e] at this;simp at this
theorem yT{A:Nat->ah}{G:ah->List Nat}(hnd:L.Nodup)(hA:bh=(List.range L.length).map A)(z:aE.Pairwise c3)(T:∀x,x ∈ aE↔x ∈ bh)(Z:∀x,(G x).Perm (eY bh bh.length x))
  (E:∀x,(G x).Pairwise fun i j=>aI.getD i 0<=aI.getD j 0) (R:∀i j,i < L.length->j < L.length->i≠j->A i=A j->aI.getD i 0≠aI.getD j 0):fb L G aE=d5 L A aI L.length:=by
 have K:∀i,i < L.length->bh[i]? =D (A i):=fun i al=>by rw[hA];simp[al]
 refine du.eq (f:=fun u=>aI.getD (L.idxOf u) 0) (P:=fun a u=>∃i,i < L.length/\bh[i]? =D a/\L[i]? =D u) ?_ ?_
 ·refine CR (by rw[hA];simp) hnd z T Z E fun i j al ag ak e=> ?_
  rw[K i al,K j ag] at e;exact R i j al ag ak (cn e)
 refine(re hnd R ce).s8 fun a u=> ?_;constructor
 ·rintro⟨i,al,e,E⟩
  exact⟨i,al,by rw[K i al,e],E⟩
 rintro⟨i,al,e,E⟩;rw[K i al] at e;exact⟨i,al,cn e,E⟩
end
section
open Go.RowKit
section
variable {P:Program} {ops:Array de}
theorem B5{a:Act}{w:ac}{hR:Type}(G:hR->List ae)(N:hR->Array Bool->ac->Prop){fin:hR->Act}(hf:∀x,aT ops.toList (G x) a=fin x)(M:g4 ops=S)(aM:∀x,(G x).length=ops.size)
  (aV:hR) (h0:N aV (eA ops.size Q) w.drew)
  (dH:∀x L W,L.size=ops.size->(∀i k,eB .any ops i k=S->L.getD i Q=S->L.getD k Q=S)->N x L W->∀i af,ops[i]? =D af->L.getD i S=Q->(∀k,eB .any ops i k=S->L.getD k Q=S)->
   ∀K:Act->ac->Prop,(∀W',N x (L.setIfInBounds i S) W'->K (fin x) W')->(∀v J W',G J=(G x).set i v->N J (L.setIfInBounds i S) W'->K ((fin x).put af.dst v) W')->
    if eP af (yielded ops (fin x).tmps)=S then af.wp P (fin x) W K je else K ((fin x).put af.dst U) W):
  ∃INV:Array Bool->Act->ac->Prop,INV (eA ops.size Q) a w.drew/\(∀L y W i,INV L y W->i ∈ fS .any ops L->L.size=ops.size/\∀Z,wpOp P ops Z i (fun ah W'=>INV (L.setIfInBounds i S) ah W') y W)/\∀L y W,INV L y W->fS .any ops L= []->L.size=ops.size/\∃x,y=fin x/\N x L W/\∀k,k < ops.size->L.getD k Q=S:=by
 have aN:∀i,(eA ops.size Q).getD i Q=Q:=fun i=>by
  simp only[li,mq]
  split <;> rfl
 refine⟨fun L y W=>L.size=ops.size/\(∀i k,eB .any ops i k=S->L.getD i Q=S->L.getD k Q=S)/\∃x,Fr ops (fin x) L y/\N x L W,⟨by simp,(fun i k _ h=>by rw[aN] at h;cases h),aV,Fr.start (hf aV),h0⟩, ?_, ?_⟩
 ·rintro L y W i ⟨hsz,ay,x,hF,R⟩ A
  refine⟨hsz,fun Z=> ?_⟩;obtain⟨an,af,E,aK⟩:=mem_ready.1 A;have I:=dH x L W hsz ay R i af E an (fun k aw=>cA A aw)
   (fun b W'=>(b=fin x/\N x (L.setIfInBounds i S) W')∨∃v J,b=(fin x).put af.dst v/\G J=(G x).set i v/\N J (L.setIfInBounds i S) W') (fun W' h=> .inl ⟨rfl,h⟩) (fun v J W' aC h=> .inr ⟨v,J,rfl,aC,h⟩)
  obtain⟨ap,ak⟩:=hF.eval M E A;have key:∀u W',(((fin x).put af.dst u=fin x/\N x (L.setIfInBounds i S) W')∨∃v J,(fin x).put af.dst u=(fin x).put af.dst v/\G J=(G x).set i v/\N J (L.setIfInBounds i S) W')->
    (L.setIfInBounds i S).size=ops.size/\(∀j k,eB .any ops j k=S->(L.setIfInBounds i S).getD j Q=S->(L.setIfInBounds i S).getD k Q=S)/\∃x,Fr ops (fin x) (L.setIfInBounds i S) (y.put af.dst u)/\N x (L.setIfInBounds i S) W':=by
   intro u W' hh;refine⟨by simpa using hsz,(fun j k am av=> ?_), ?_⟩
   ·by_cases e:i=j
    ·subst e
     exact ix (cA A am)
    ·exact ix (ay j k am (up e av))
   rcases hh with ⟨aC,aI⟩ | ⟨v,J,br,aC,aI⟩
   ·exact⟨x,hF.put M E aC,aI⟩
   ·exact⟨J,hF.vW hf aM M E br aC,aI⟩
  unfold wpOp;simp only[E];rw[ak];split
  ·rename_i am
   rw[if_pos am] at I;refine .inl ?_;unfold Oper.wp at I |-;rw[ap];generalize (execOp (fin x).eval af).run P W=r at I |-
   cases r with
   | ok nx W'=>
    cases nx <;> simp only[Oper.upon] at I |-
    case value v=>exact key v W' I
    case skip=>exact key U W' I
    case defer d=>
     exfalso;rcases I with ⟨h1,_⟩ | ⟨v,J,h1,_,_⟩ <;> (have:=congrArg Act.defers h1;cases a9:af.dst <;> simp[a9,Act.put] at this)
    case enter f args=>
     refine Calls.mono I fun e aH aA=> ?_
     cases e with
     | returned v=>exact key v aH aA
     | panicked c=>exact aA.elim
     | outgrown=>
      obtain⟨_,_,h⟩:=aA;exact h.elim
    case row r args=>exact Rows.mono I fun v aH aA=>key v aH aA
   | halt x W'=>cases x <;> simp only[Oper.upon] at I |- <;> exact I.elim
  rename_i am
  rw[if_neg am] at I;exact key U W I
 rintro L y W ⟨hsz,ay,x,hF,R⟩ A;have hall:=lE A hsz ((cu _ _).mp M).1;have:y=fin x:=by
  obtain⟨bD,d1⟩:=y;have bA:=hf x
  revert hF
  generalize fin x=fx;intro hF;obtain⟨bE,d2⟩:=fx;have h1:=hF.kn;simp only at h1;subst h1
  congr 1
  apply Array.ext_getElem?
  intro j;by_cases z:∀(k:Nat) (p:de),ops[k]? =D p->p.dst≠D j
  ·exact hF.out j z
  simp only[Classical.not_forall,Classical.not_not] at z;obtain⟨k,p,aw,bn⟩:=z;exact hF.val k p j aw bn (hall k (hb.1 aw).1)
 exact⟨hsz,x,this,R,hall⟩
theorem BZ{a:Act}{w:ac}(T:List Nat)(dq:List (List Bool))(cl:List (List Nat))(G:(Nat->ae)->List ae)(ar:Nat->(Nat->ae)->ac->Prop){fin:(Nat->ae)->Act}(hf:∀x,aT ops.toList (G x) a=fin x)(M:g4 ops=S)(aM:∀x,(G x).length=ops.size)
  (hc:oV ops T dq cl=S) (bs:∀x j t v,T[j]? =D t->G (gj x j v)=(G x).set t v) (h0:ar 0 (fun _=>U) w.drew)
  (hA:∀j x W,j<=T.length->ar j x W->gv P ops (fin x) (ar j x) W ops.toList (dq.getD j []))
  (bi:∀j t x W,T[j]? =D t->ar j x W->∀af,ops[t]? =D af->∀K:Act->ac->Prop,(∀v W',ar (j+1) (gj x j v) W'->K ((fin x).put af.dst v) W')->
    if eP af (yielded ops (fin x).tmps)=S then af.wp P (fin x) W K je else K ((fin x).put af.dst U) W):
  ∃INV:Array Bool->Act->ac->Prop,INV (eA ops.size Q) a w.drew/\(∀L y W i,INV L y W->i ∈ fS .any ops L->L.size=ops.size/\∀Z,wpOp P ops Z i (fun ah W'=>INV (L.setIfInBounds i S) ah W') y W)/\∀L y W,INV L y W->fS .any ops L= []->L.size=ops.size/\(∀k,k < ops.size->L.getD k Q=S)/\∃x,y=fin x/\ar T.length x W:=by
 unfold oV at hc;obtain⟨hc,b8⟩:=(cu _ _).mp hc;obtain⟨hc,bC⟩:=(cu _ _).mp hc;obtain⟨hc,bV⟩:=(cu _ _).mp hc;obtain⟨c1,c2⟩:=(cu _ _).mp hc;have hnd:T.Nodup:=of_decide_eq_true b8;have aW:∀q t,T[q]? =D t->t < ops.size:=fun q t h=>Nat.le_of_ble_eq_true (dM.1 c1 t (cH h));have bv:∀q t s,T[q+1]? =D t->T[q]? =D s->eB .any ops t s=S:=fun q t s h1 ab=>by
  have ag:=(bM.1 h1).1;have h:=dM.1 c2 (q+1) (fl.2 ag);simp only[cf,h1,Nat.add_sub_cancel,ab,Option.getD_some] at h;rcases gJ _ _ |>.mp h with h | h
  ·simp at h
  ·exact h
 have aN:∀i,(eA ops.size Q).getD i Q=Q:=fun i=>by
  simp only[li,mq]
  split <;> rfl
 suffices h:_ by
  obtain⟨INV,aF,aS,aG⟩:=B5 G (fun x L W=>∃j,j<=T.length/\(∀q t,T[q]? =D t->(L.getD t Q=S↔q < j))/\ar j x W) hf M aM (fun _=>U) ⟨0,Nat.zero_le _,fun q t _=>by rw[aN];simp,h0⟩ h;refine⟨INV,aF,aS,fun L y W R A=> ?_⟩;obtain⟨hsz,x,bx,⟨j,av,ax,hst⟩,hall⟩:=aG L y W R A;have:j=T.length:=by
   by_cases h:j < T.length
   ·exfalso
    obtain⟨s,V⟩:∃s,T[j]? =D s:=⟨_,bb h⟩;have:=(ax j s V).1 (hall s (aW j s V));omega
   ·omega
  subst this;exact⟨hsz,hall,x,bx,hst⟩
 rintro x L W hsz ay ⟨j,av,ax,hst⟩ i af E an aK K a6 a8;have al:=(hb.1 E).1;have bq:(L.setIfInBounds i S).getD i Q=S:=by
  have:i < L.size:=by omega
  simp[this]
 have aO:L.getD i Q=Q:=na an;by_cases aJ:∃q:Nat,T[q]? =D i
 ·obtain⟨q,z⟩:=aJ
  have h1:¬q < j:=fun h=>by rw[(ax q i z).2 h] at aO;cases aO
  have ab:q=j:=by
   cases q with
   | zero=>omega
   | succ q=>
    have bo:=(bM.1 z).1;obtain⟨s,V⟩:∃s,T[q]? =D s:=⟨_,bb (by omega)⟩;have:=(ax q s V).1 (aK s (bv q i s z V));omega
  subst ab;have bo:=(bM.1 z).1;refine bi q i x W z hst af E K fun v W' h=>a8 v (gj x q v) W' (bs x q i v z) ⟨q+1,by omega,fun cM aX aE=> ?_,h⟩;by_cases e:i=aX
  ·subst e
   have:cM=q:=by
    have ao:=(bM.1 aE);have a2:=(bM.1 z);exact(List.getElem_inj hnd).1 (ao.2.trans a2.2.symm)
   subst this;rw[bq];simp
  rw[getD_set_ne Q e,ax cM aX aE];have:cM≠q:=fun ak=>by rw[ak,z] at aE;exact e (cn aE)
  omega
 have bk:T.contains i=Q:=by
  rw[<-Bool.not_eq_true,j3];intro bj;obtain⟨q,z⟩:=fz bj;exact aJ ⟨q,z⟩
 have az:=dM.1 bC i (fl.2 al);rw[bk,Bool.false_or] at az;have az:=dM.1 az j (fl.2 (by omega));have key:∀W',ar j x W'->K (fin x) W':=fun W' h=>a6 W' ⟨j,av,fun q t z=>by
  have:i≠t:=fun e=>aJ ⟨q,by rw[e];exact z⟩;rw[getD_set_ne Q this];exact ax q t z,h⟩
 have a1:(dq.getD j []).getD i Q=S->(dq.getD j [])[i]? =D S:=fun h=>by
  rw[cf] at h
  cases z:(dq.getD j [])[i]? with
  | none=>rw[z] at h;cases h
  | some b=>rw[z] at h;simp at h;rw[h]
 refine(hA j x W av hst).at_ (by simpa using E) (a1 ?_) K key;rcases gJ _ _ |>.mp az with ai | ai
 ·exact ai
 exfalso;rcases gJ _ _ |>.mp ai with ai | ai
 case inr=>
  obtain⟨t,ht,am⟩:=List.any_eq_true.1 ai;obtain⟨q,z⟩:=fz ht;rw[List.getElem?_drop] at z;have:=(ax (j+q) t z).1 (aK t am);omega
 obtain⟨a4,ai⟩:=(cu _ _).mp ai
 cases j with
 | zero=>cases a4
 | succ j=>
  rw[Nat.add_sub_cancel,j3] at ai;obtain⟨s,V⟩:∃s,T[j]? =D s:=⟨_,bb (by omega)⟩;have bp:T.getD j 0=s:=by rw[cf,V];rfl
  have:=mL ay (cl.getD j []) [T.getD j 0] (dM.1 bV j (fl.2 (by omega))) (by intro k aw;rw[iy] at aw;subst aw;rw[bp];exact(ax j s V).2 (by omega)) i ai;rw[aO] at this;cases this
def iE:List de->List de
 | []=> []
 | [af]=> [{af with dst:=F}]
 | af::p::os=>af::iE (p::os)
theorem tq:∀l:List de,(iE l).length=l.length
 | []=>rfl
 | [af]=>rfl
 | af::p::os=>by simp only[iE,fJ,tq (p::os)]
theorem tn:∀(l:List de) (i:Nat),i≠l.length-1->(iE l)[i]? =l[i]?
 | [],i,_=>rfl
 | [af],0,h=>absurd rfl h
 | [af],i+1,_=>by simp[iE]
 | af::p::os,0,_=>rfl
 | af::p::os,i+1,h=>by
  have:=tn (p::os) i (by simp only[fJ] at h |-;omega);simp only[iE,cO];exact this
theorem tp:∀(l:List de) (af:de),l[l.length-1]? =D af->(iE l)[l.length-1]? =D {af with dst:=F}
 | [],af,h=>by simp at h
 | [p],af,h=>by simp at h;subst h;rfl
 | q::p::os,af,h=>by
  have:=tp (p::os) af (by simpa using h);simpa[iE] using this
def fk(ops:Array de):Array de:=(iE ops.toList).toArray
theorem ol(ops:Array de):(fk ops).size=ops.size:=by
 simp[fk,tq]
theorem rC{i:Nat}(h:i≠ops.size-1):(fk ops)[i]? =ops[i]? :=by
 have:=tn ops.toList i (by rw[Array.length_toList];exact h);simpa[fk] using this
theorem uL{af:de}(h:ops[ops.size-1]? =D af):(fk ops)[ops.size-1]? =D {af with dst:=F}:=by
 have:=tp ops.toList af (by rw[Array.length_toList];simpa using h);simpa[fk] using this
theorem Bj(i:Nat):((fk ops)[i]?).map (·.after)=(ops[i]?).map (·.after):=by
 by_cases h:i=ops.size-1
 ·subst h
  cases h1:ops[ops.size-1]? with
  | some af=>rw[uL h1] <;> rfl
  | none=>
   have ab:(fk ops)[ops.size-1]? =F:=by
    rw[Array.getElem?_eq_none_iff] at h1 |-;rw[ol];exact h1
   rw[ab]
 ·rw[rC h]
theorem rD(L:Array Bool):fS .any (fk ops) L=fS .any ops L:=by
 unfold Region.ready;rw[ol];refine List.filter_congr fun i _=> ?_
 congr 1
 have h:=Bj (ops:=ops) i
 cases h1:(fk ops)[i]? with
 | none=>
  rw[h1] at h
  cases ab:ops[i]? with
  | none=>rfl
  | some af=>rw[ab] at h;cases h
 | some bB=>
  rw[h1] at h
  cases ab:ops[i]? with
  | none=>rw[ab] at h;cases h
  | some af=>rw[ab] at h;simp only[DI,mA] at h;simp only[DI,Option.getD_some,h]
def tZ(ops:Array de):Bool:=(match ops[ops.size-1]? with
 | some af=>(match af.op with | .assign (.tmp _)=>S | _=>Q) && af.guard.isNone && (List.range (ops.size-1)).all fun k=>eB .any ops (ops.size-1) k
 | none=>Q) && (List.range ops.size).all fun i=>match ops[i]? with
 | some af=>(match af.guard with | some (g,_)=>Nat.blt g (ops.size-1) | none=>S)
 | none=>S
theorem BY{id:Nat}{a:Act}{w:ac}{Z:Exit->Act->ac->Prop}{aD:Act->ac->Prop}(bh:P.follows .mixedOrders=S)(M:tZ ops=S){s:Tmp}{af:de}(E:ops[ops.size-1]? =D af)(V:af.op= .assign (.tmp s))
  (R:∃INV:Array Bool->Act->ac->Prop,INV (eA (fk ops).size Q) a w.drew/\(∀L y W i,INV L y W->i ∈ fS .any (fk ops) L->L.size=(fk ops).size/\∀Z,wpOp P (fk ops) Z i (fun ah W'=>INV (L.setIfInBounds i S) ah W') y W)/\∀L y W,INV L y W->fS .any (fk ops) L= []->L.size=(fk ops).size/\(∀k,k < (fk ops).size->L.getD k Q=S)/\aD y W)
  (hF:∀y W,aD y W->Z .normal (y.put af.dst (y.eval (.tmp s))) W):(Code.region id ops S).wp P Z a w:=by
 obtain⟨INV,aF,aS,aG⟩:=R;rw[ol] at aF;have bz:=M;unfold tZ at M;rw[E] at M;simp only[V,cu,Bool.true_and] at M;obtain⟨⟨aB,am⟩,be⟩:=M;have aB:af.guard=F:=by cases h:af.guard with | none=>rfl | some x=>rw[h] at aB;cases aB
 have hn:=(hb.1 E).1;refine mo (fun L y W=>(L.getD (ops.size-1) Q=Q/\INV L y W)∨(L.getD (ops.size-1) Q=S/\(∀k,k < ops.size->L.getD k Q=S)/\∃a0,y=a0.put af.dst (a0.eval (.tmp s))/\aD a0 W)) bh (.inl ⟨by simp[li,mq];split <;> rfl,aF⟩) ?_ ?_
 ·rintro L y W i (⟨an,R⟩ | ⟨_,hall,_⟩) A
  ·obtain⟨hsz,dH⟩:=aS L y W i R (by rw[rD];exact A)
   rw[ol] at hsz;have bf:=jU A;by_cases e:i=ops.size-1
   ·have hst:=dH je
    unfold wpOp at hst |-;rw[e] at hst |-;rw[uL E] at hst;rw[E];simp only at hst |-;have bt:eP af (yielded ops y.tmps)=S:=by simp[eP,aB]
    have bu:eP {af with dst:=F} (yielded (fk ops) y.tmps)=S:=by simp[eP,aB]
    rw[if_pos bt];rw[if_pos bu] at hst;have bg:¬LetsOut je:=fun h=>by obtain⟨_,_,h⟩:=h;exact h
    have hst:=hst.resolve_right (fun h=>bg h.2);refine .inl ?_;unfold Oper.wp at hst |-;simp only[execOp,V,Sem.run_pure,Oper.upon] at hst |-;have aL:∀k,k < ops.size->(L.setIfInBounds (ops.size-1) S).getD k Q=S:=fun k aw=>by
     by_cases aZ:k=ops.size-1
     ·subst aZ
      simp[show ops.size-1 < L.size by omega]
     refine ix (cA A ?_);rw[e];exact dM.1 am k (fl.2 (by omega))
    have bl:fS .any (fk ops) (L.setIfInBounds (ops.size-1) S)= []:=by
     rw[rD];apply List.eq_nil_iff_forall_not_mem.2
     intro j av;have h1:=(mem_ready.1 av).1;have ab:=aL j (jU av);rw[na h1] at ab;cases ab
    have az:=aG _ _ _ hst bl;exact .inr ⟨aL _ (by omega),aL,y,rfl,az.2.2⟩
   have hst:=dH Z;have bm:=rC (ops:=ops) e;unfold wpOp at hst |-;rw[bm] at hst
   cases aP:ops[i]? with
   | none=>
    rw[aP] at hst;exact .inl ⟨by rw[getD_set_ne Q (fun ak=>e ak)];exact an,hst⟩
   | some aU=>
    rw[aP] at hst;simp only at hst |-;have bw:eP aU (yielded (fk ops) y.tmps)=eP aU (yielded ops y.tmps):=by
     unfold Region.wanted
     cases bc:aU.guard with
     | none=>rfl
     | some a3=>
      obtain⟨g,b⟩:=a3;have h1:=dM.1 be i (fl.2 bf);rw[aP] at h1;simp only[bc] at h1;have aW:g < ops.size-1:=Nat.le_of_ble_eq_true h1;simp only[yielded,rC (ops:=ops) (show g≠ops.size-1 by omega)]
    rw[bw] at hst;have aY:∀ah W',INV (L.setIfInBounds i S) ah W'->((L.setIfInBounds i S).getD (ops.size-1) Q=Q/\INV (L.setIfInBounds i S) ah W')∨((L.setIfInBounds i S).getD (ops.size-1) Q=S/\(∀k,k < ops.size->(L.setIfInBounds i S).getD k Q=S)/\∃a0,ah=a0.put af.dst (a0.eval (.tmp s))/\aD a0 W'):=fun ah W' h=> .inl ⟨by rw[getD_set_ne Q (fun ak=>e ak)];exact an,h⟩
    split at hst
    ·rename_i aR
     rw[if_pos aR];rcases hst with hst | hst
     ·exact .inl (Oper.wp_mono aY hst)
     ·exact .inr hst
    rename_i aR
    rw[if_neg aR];exact aY _ _ hst
  exfalso;have h1:=hall i (jU A);rw[na (mem_ready.1 A).1] at h1;cases h1
 rintro L y W (⟨an,R⟩ | ⟨_,_,a0,rfl,a5⟩) A
 ·exfalso
  have az:=aG L y W R (by rw[rD];exact A);rw[ol] at az;rw[az.2.1 (ops.size-1) (by omega)] at an;cases an
 ·exact hF a0 W a5
end
end
section
set_option maxRecDepth 100000
open Go.RowKit Go.Maps
theorem Ae(W H:Int)(Am Ac Ap As:Option Addr)(nm cm nc cc np cp ns cS:Nat)(sts:List aP)(t:ah)(w:ac)(hst:en w As ns sts):
  Calls aj 81 #[aq #[B o W, B o H, O Am nm cm, O Ac nc cc, O Ap np cp, O As ns cS],bK t] w fun e Z=>e= .returned (B o (cy sts t))/\Below w.heap.size w Z:=by
 have bE:=aW (aQ w (Y #[B o W, B o H, O Am nm cm, O Ac nc cc, O Ap np cp, O As ns cS] 29)) (Y #[B o t.1, B o t.2.1, B o t.2.2] 53);have a6:=aQ (w.alloc (Y #[B o W, B o H, O Am nm cm, O Ac nc cc, O Ap np cp, O As ns cS] 29)) (Y #[B o t.1, B o t.2.1, B o t.2.2] 53);rw[World.size_alloc] at a6;have M:=aN (aV w (Y #[B o W, B o H, O Am nm cm, O Ac nc cc, O Ap np cp, O As ns cS] 29)) (Y #[B o t.1, B o t.2.1, B o t.2.2] 53);have c:=aB bE 5;obtain⟨r,y,A⟩:=dl a6;simp only[cP,cU,cO] at c;obtain⟨l,av⟩:=aY (hst.below M) M;obtain⟨az,aR⟩:=ai (cy sts t)
 rw[<-aR];have P:Hid (az=cy (sts.drop 0) t):=R aR;clear hst M bE a6 aR;go_in
 go_wp2_with fail
 generalize (w.alloc (Y #[B o W, B o H, O Am nm cm, O Ac nc cc, O Ap np cp, O As ns cS] 29)).alloc (Y #[B o t.1, B o t.2.1, B o t.2.2] 53)=w0 at c r y A l av |-;go_loopw [5] (fun v wr=>∃i:Nat,i<=sts.length/\v= B o i/\Hid (az=cy (sts.drop i) t)/\Hid (Below w0.heap.size w0 wr)) (fun v _=>sts.length-(intOf v).toNat)
 case atStart=>exact⟨0,by omega,rfl,P,R aX⟩
 clear P;obtain⟨i,al,rfl,P,b⟩:=hrel;obtain⟨bH,rfl⟩:=ai wr;by_cases aZ:i < sts.length
 ·obtain⟨s,a5⟩:∃s,sts[i]? =D s:=⟨_,bb aZ⟩
  obtain⟨aM,a8,a9,c2,hA,ck,bt,bs,b8,b9,cb,aG⟩:=l.out.sF a5;cases hA
  have bm:=Ar a5 t;have bx:=bs.1;have bu:=bt.below b.out;have dp:=fun(W':ac) (aU:Below bH.heap.size bH W')=>rI a9 c2 s.2 t W' (bu.below aU) bx;obtain⟨ap,a3⟩:=ai (dU s.2 t);rw[<-a3] at dp;obtain⟨bc,aJ⟩:=aY dp a3;replace c:=V c b.out;replace r:=V r b.out;replace y:=V y b.out;replace A:=V A b.out;replace aG:=V aG b.out;have bX:(i:Int) < (ns:Int):=by have:=l.out.len;omega
  have bV:(0:Int)<=(i:Int):=by omega
  have bg:=R bm;clear a5 bt bs b8 b9 cb bx bu bm dp a3
  go_wp2_with fail
  refine bW (fin:= ?z1) [ad (D ⟨w.heap.size,5,F⟩), O (D ⟨aM,a8,F⟩) ns cS, B o i, ad (D ⟨aM,a8+i*4,F⟩), ad (D ⟨aM,a8+i*4+3,F⟩), O a9 s.2.length c2,bK t, B o ap, B o ap] ?hf bp (by kernel_rfl) rfl fun a g=> ?_;case hf=>simp only[aT,Act.put,bd,ba,List.set_cons_zero];exact rfl
  have bS:=R g;obtain⟨c,r,y,A,aG⟩:=mc g c r y A aG;constructor
  ·iterate 9 refine⟨?_,fun K E=> ?_⟩
   ·trivial
   all_goals try (go_simp;exact E _ bS.out;done)
   go_simp;exact aw (bc.out a g) fun wc G=>E _ (ax g G)
  have ay:=R (ax b.out g);clear g bc;by_cases hts:t ∈ s.2
  ·have a4:0<=ap:=by rw[aJ.out];unfold dU;rw[if_pos hts];omega
   have bZ:ap≥0:=a4;have aC:az=ap:=by rw[P.out,bg.out,if_pos hts,aJ.out];unfold dU;rw[if_pos hts]
   obtain⟨aK,aH⟩:=aY aC (ax av.out ay.out);clear aC hts;go_wp2;go_ret;exact⟨ez aK.out.symm,aH.out⟩
  have a4:¬0<=ap:=by rw[aJ.out];unfold dU;rw[if_neg hts];omega
  have bZ:¬ap≥0:=a4;have br:az=cy (sts.drop (i+1)) t:=by rw[P.out,bg.out,if_neg hts]
  have bN:=R br;have b6:b7.wrap ((i:Int)+1)=((i+1:Nat):Int):=by have h1:=l.out.aL;have ab:=l.out.len;rw[ca _ (by omega)];omega
  clear br hts;go_wp2;go_roundw
  case rel=>exact⟨i+1,by omega,by first | rfl | go_num,bN,ay⟩
  case measure=>simp[intOf];omega
 obtain rfl:i=sts.length:=by omega
 have aC:az= -1:=by rw[P.out,List.drop_length];rfl
 obtain⟨aK,aH⟩:=aY aC (ax av.out b.out);have bY:¬((sts.length:Int) < (ns:Int)):=by have:=l.out.len;omega
 replace c:=V c b.out;clear aC;go_wp2;go_ret;exact⟨ez aK.out.symm,aH.out⟩
theorem t7(W H:Nat)(Am Ac Ap As:Option Addr)(nm cm nc cc np cp ns cS:Nat)(mask:List Int)(cs:List bw)(L:List ah)(sts:List aP)(w:ac)(bl:eF w W H Am nm mask Ac nc cs)(hL:bG W mask=L)(cj:L.length<=1000)(hst:en w As ns sts):
  Calls aj 33 #[aq #[B o W, B o H, O Am nm cm, O Ac nc cc, O Ap np cp, O As ns cS]] w fun e Z=>∃v,e= .returned v/\Z.ownsRow w.heap.size 3 1 v L.length (bF (L.map (cy sts)))/\Below w.heap.size w Z:=by
 have bD:=aQ w (Y #[B o W, B o H, O Am nm cm, O Ac nc cc, O Ap np cp, O As ns cS] 29);have M:=aV w (Y #[B o W, B o H, O Am nm cm, O Ac nc cc, O Ap np cp, O As ns cS] 29);obtain⟨a0,ao,a2,I,J,c⟩:=cx bD;have b4:w.heap.size<=(w.alloc (Y #[B o W, B o H, O Am nm cm, O Ac nc cc, O Ap np cp, O As ns cS] 29)).heap.size:=M.size;have cZ:=lh W H Am Ac nm cm nc cc mask cs (w.alloc (Y #[B o W, B o H, O Am nm cm, O Ac nc cc, O Ap np cp, O As ns cS] 29)) (bl.below M);rw[hL] at cZ;unfold g5 at cZ;obtain⟨be,l,av⟩:=cq cZ (hst.below M) M;clear hst M bD bl hL cZ;obtain⟨ch,aS⟩:=ai (L.map (cy sts));rw[<-aS];have bP:=R aS;clear aS;go_in
 go_wp2_with fail
 refine be.out.mono ?_;rintro e an ⟨bJ,rfl,a1,N⟩;obtain⟨cg,dx,b5,_,_⟩:=dd a1;subst b5;obtain⟨bO,bR,ay⟩:=cq a1 (l.out.below N) (av.out.trans (N.mono b4));replace a0:=V a0 N;replace ao:=V ao N;replace a2:=V a2 N;replace I:=V I N;replace J:=V J N;replace c:=V c N;clear a1 N be l
 go_wp2_with fail
 have hsz2:=ay.out.size;have bv:Hid (an.ownsRow an.heap.size 3 1 (O F 0 0) 0 (bF ((L.take 0).map (cy sts)))):=R (World.ownsRow_nil _ _ _ _);go_loopw [4,5] (fun x v wr=>∃(i:Nat) (T:ae),i<=L.length/\v= B o i/\T=x/\Hid (wr.ownsRow an.heap.size 3 1 T i (bF ((L.take i).map (cy sts))))/\Hid (Below an.heap.size an wr)) (fun _ v _=>L.length-(intOf v).toNat)
 case atStart=>exact⟨0,_,by omega,rfl,rfl,bv,R aX⟩
 clear bv;obtain⟨i,T,al,rfl,rfl,aE,b⟩:=hrel;obtain⟨ar,rfl⟩:=ai wr;by_cases aZ:i < L.length
 ·obtain⟨t,ht⟩:∃t,L[i]? =D t:=⟨_,bb aZ⟩
  obtain⟨ak,am,bT,r,y,A⟩:=Rd.pZ (Rd.dB (bo bO.out b.out)) ht rfl;subst bT;have bz:=bR.out.below b.out;have aO:=fun(W':ac) (aU:Below ar.heap.size ar W')=>Ae W H Am Ac Ap As nm cm nc cc np cp ns cS sts t W' (bz.below aU);obtain⟨z,aI⟩:=ai (cy sts t);rw[<-aI] at aO;have bf:=R aO;have bA:(L.take (i+1)).map (cy sts)=(L.take i).map (cy sts)++ [z]:=by rw[hT,ht,List.map_append,aI];rfl
  have bh:=R bA;replace a0:=V a0 b.out;replace ao:=V ao b.out;replace a2:=V a2 b.out;replace I:=V I b.out;replace J:=V J b.out;replace c:=V c b.out;have bX:(i:Int) < (L.length:Int):=by omega
  have bV:(0:Int)<=(i:Int):=by omega
  obtain⟨bj,bk,bU,_,_⟩:=dd aE.out;subst bU;have b3:=b.out.size;clear ht bz aI aO bA
  go_wp2_with fail
  refine BY (by kernel_rfl) (by kernel_rfl) (s:=23) rfl rfl (BZ (fin:= ?z2) [7,8] [[S,S,S,S,S,S,S,Q,Q,Q], [S,Q,Q,Q,Q,Q,Q,Q,Q,Q], [Q,Q,Q,Q,Q,Q,Q,Q,Q,S]] [[6,1,5,4,2,3], [0,7,6,1,5,4,2,3]] (fun x=> [O bj i bk, aq #[B o W, B o H, O Am nm cm, O Ac nc cc, O Ap np cp, O As ns cS], O (D ⟨ak,am,F⟩) L.length dx, B o i, ad (D ⟨ak,am+i*3,F⟩),bK t, B o z,(x 0),(x 1),U]) (fun k x a=>match k with | 0=>a.cell? ⟨w.heap.size,0,F⟩=D (B o W)/\a.cell? ⟨w.heap.size,1,F⟩=D (B o H)/\a.cell? ⟨w.heap.size,2,F⟩=D (O Am nm cm)/\a.cell? ⟨w.heap.size,3,F⟩=D (O Ac nc cc)/\a.cell? ⟨w.heap.size,4,F⟩=D (O Ap np cp)/\a.cell? ⟨w.heap.size,5,F⟩=D (O As ns cS)/\a.cell? ⟨ak,am+i*3,F⟩=D (B o t.1)/\a.cell? ⟨ak,am+i*3+1,F⟩=D (B o t.2.1)/\a.cell? ⟨ak,am+i*3+2,F⟩=D (B o t.2.2)/\Below ar.heap.size ar a | 1=>a.cell? ⟨w.heap.size,0,F⟩=D (B o W)/\a.cell? ⟨w.heap.size,1,F⟩=D (B o H)/\a.cell? ⟨w.heap.size,2,F⟩=D (O Am nm cm)/\a.cell? ⟨w.heap.size,3,F⟩=D (O Ac nc cc)/\a.cell? ⟨w.heap.size,4,F⟩=D (O Ap np cp)/\a.cell? ⟨w.heap.size,5,F⟩=D (O As ns cS)/\a.cell? ⟨ak,am+i*3,F⟩=D (B o t.1)/\a.cell? ⟨ak,am+i*3+1,F⟩=D (B o t.2.1)/\a.cell? ⟨ak,am+i*3+2,F⟩=D (B o t.2.2)/\Below ar.heap.size ar a/\∃aA,Hid (x 0= O (D ⟨aA,0,F⟩) 1 1)/\a.heap[aA]? =D (Y #[B o z] 3 (0,0)) | _=>Hid (Below an.heap.size ar a)/\Hid (a.ownsRow an.heap.size 3 1 (x 1) (i+1) (bF ((L.take (i+1)).map (cy sts))))) ?hf (by kernel_rfl) (fun _=>rfl) (by kernel_rfl) ?hv ⟨a0,ao,a2,I,J,c,r,y,A,aX.drew⟩ ?hA ?bi) ?he
  case hf=>intro x;simp only[fk,iE,sq,aT,Act.put,bd,ba,List.set_cons_zero];exact rfl
  case hv=>
   intro x k t v h
   cases k with
   | zero=>cases h;rfl
   | succ k=>
    cases k with
    | zero=>cases h;rfl
    | succ k=>
     simp at h
  case hA=>
   intro k x a bn hst;have bn:k<=2:=bn;rcases(show k=0∨k=1∨k=2 by omega) with rfl | rfl | rfl
   ·have l:=R hst
    obtain⟨a0,ao,a2,I,J,c,r,y,A,g⟩:=hst;iterate 7 refine⟨?_,fun K E=> ?_⟩
    ·trivial
    all_goals try (go_simp;exact E _ l.out;done)
    go_simp;exact aw (bf.out a g) fun wc G=>E _ ⟨V a0 G,V ao G,V a2 G,V I G,V J G,V c G,V r G,V y G,V A G,ax g G⟩
   ·have l:=R hst
    obtain⟨a0,ao,a2,I,J,c,r,y,A,g,aA,bC,bq⟩:=hst;iterate 1 refine⟨?_,fun K E=> ?_⟩
    ·trivial
    all_goals try (go_simp;exact E _ l.out;done)
   have l:=R hst;obtain⟨h1,ab⟩:=hst;iterate 1 refine⟨?_,fun K E=> ?_⟩
   ·trivial
   all_goals try (go_simp;exact E _ l.out;done)
  case bi=>
   intro k t x a ht hst af aF K E
   cases k with
   | zero=>
    cases ht
    simp only[fk,iE,sq,cP,cO,cU,mA] at aF;subst aF;obtain⟨a0,ao,a2,I,J,c,r,y,A,g⟩:=hst;go_simp;exact E (O (D ⟨a.heap.size,0,F⟩) 1 1) _ ⟨aD a0 (Y #[B o z] 3),aD ao (Y #[B o z] 3),aD a2 (Y #[B o z] 3),aD I (Y #[B o z] 3),aD J (Y #[B o z] 3),aD c (Y #[B o z] 3),aD r (Y #[B o z] 3),aD y (Y #[B o z] 3),aD A (Y #[B o z] 3),g.alloc g.size (Y #[B o z] 3),a.heap.size,R rfl,aQ a (Y #[B o z] 3)⟩
   | succ k=>
    cases k with
    | zero=>
     cases ht
     simp only[fk,iE,sq,cP,cO,cU,mA] at aF;subst aF;obtain⟨a0,ao,a2,I,J,c,r,y,A,g,aA,bC,bq⟩:=hst;have b2:=bo aE.out g;have cl:=g.size;refine nv Tryz.underlying22 mT rfl (by decide) (by decide) rfl _ _ rfl an.heap.size (O bj i bk) i (bF ((L.take i).map (cy sts))) [B o z] rfl b2 (by omega) 1 aA bC.out bq rfl (fun u bB=>by rw[iy] at bB;subst bB;rfl) (by omega) (fun cd ce h1 ab ag=>E cd ce ?_);rw[show bF ((L.take i).map (cy sts))++ [Value.int o z]=bF ((L.take (i+1)).map (cy sts)) by rw[bh.out];simp[bF]] at h1;exact⟨R ((g.mono b3).trans ab),R h1⟩
    | succ k=>
     simp at ht
  rintro ci a ⟨x,rfl,hst⟩;obtain⟨h1,ab⟩:=hst;have bQ:=ab;have bL:=R (b.out.trans h1.out);clear h1 ab r y A bf bh;have b6:b7.wrap ((i:Int)+1)=((i+1:Nat):Int):=by rw[ca _ (by omega)];omega
  go_wp2;go_roundw
  case rel=>exact⟨i+1,_,by omega,by first | rfl | go_num,rfl,bQ,bL⟩
  case measure=>simp[intOf];omega
 obtain rfl:i=L.length:=by omega
 rw[List.take_length] at aE;have P:=aE;have bI:=R (ay.out.trans (b.out.mono hsz2));have bY:¬((L.length:Int) < (L.length:Int)):=by omega
 clear aE;go_wp2;exact cT (v:=T) (by simp[results,Tryz.results33,go_sem]) rfl ⟨T,rfl,by rw[bP.out];exact dn P.out hsz2,bI.out⟩
end
end Go.Proofs.YteaeipgfjmnecaaGreatDoor

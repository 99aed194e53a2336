/- Lemmas; each says its own conditions. -/
import Derived.RangeFuncNested
import Derived.RangeFuncBound
import Derived.RangeFuncCalls
import Derived.RangeFuncLeaves
import Derived.Shelf.SlIterI.Keys
import Derived.Test.YteaeipgfjmnecaaGreatDoorK10
import Derived.Maps.RangeWalk
open Array renaming replicate_succ->jY,replicate_zero->jZ
open Bool renaming and_eq_true->cu,false->Q,or_eq_true->gJ,true->S
open Go renaming Addr->cF,TypeId->dK,Value->ae,World->ac,heap_alloc_new->aQ,undef->U
open Go.Fence renaming wide->fR
open Go.KeepsOthers renaming alloc->qd
open Go.KeepsWalks renaming putObj->wn
open Go.Lib renaming run_eql_slice_nil->sd
open Go.Region renaming waitsFor->eB,wanted->eP
open Go.RowKit.Below renaming setCell->nF
open Go.World renaming grownBy_alloc->sj,ownsRow_made->sk,ownsRow_nil->gl,putObj_heap_other->qi,putObj_heap_same->wu,size_alloc->em
open Go.IntKind renaming i64->o
open List renaming all_eq_true->dM,append_toArray->j2,cons_append->jq,contains_iff_mem->j3,getD_eq_getElem?_getD->cf,getElem?_append_left->hS,getElem?_cons_succ->cO,getElem?_cons_zero->cU,getElem?_eq_getElem->bb,getElem?_eq_some_iff->bM,getElem?_toArray->cP,idxOf_lt_length_of_mem->gK,length_cons->fJ,length_eq_zero_iff->gm,length_map->gM,length_nil->j5,mem_of_getElem?->cH,mem_range->fl,nil_append->j7,push_toArray->j9,range->c4,setIfInBounds_toArray->bd,set_cons_succ->ba,set_cons_zero->bc,size_toArray->jt
open Nat renaming beq->f4,eq_zero_or_pos->nM,le_succ->iW,le_trans->ec,reduceAdd->ka,reduceSub->kb,zero_add->fT,zero_le->oK
open Go.Obj renaming cells->Y
open Option renaming none->F,some->D
open Option.some renaming inj->cn
open Go.Proofs.Tryz renaming prog->aj
open Go.Value renaming agg->aq,bool->aa,func->eO,int->B,pointer->ad,slice->O
namespace Go.Proofs.YteaeipgfjmnecaaGreatDoor
set_option linter.unusedSimpArgs false
set_option linter.unusedVariables false
set_option maxHeartbeats 12800000
section
section
open Go.RowKit
theorem uP(w:ac)(aN:List ae)(e:dK):∀(j:Nat) (ay:ae),aN[j]? =D ay->(w.alloc (.cells aN.toArray e)).cell? ((⟨w.heap.size,0,F⟩:cF).add j)=D ay:=by
 intro j ay h;rw[fW,fT,aB (aQ w _) j];simpa using h
theorem ma{W:ac}{g l:Nat}{af bX:Obj}{cs:Array ae}{t:dK}(h:W.heap[g]? =D (.cells cs t (0,0)))(av:W.heap[l]? =D af)(ap:af.isCells=Q):(W.putObj l bX).heap[g]? =D (.cells cs t (0,0)):=by
 refine(qi ?_).trans h;rintro rfl;rw[h] at av;rw[<-cn av] at ap;cases ap
theorem nd{W:ac}{L l n aL:Nat}{e:dK}{v:ae}{i:List ae}{af bX:Obj}(h:W.ownsRow L e aL v n i)(av:W.heap[l]? =D af)(ap:af.isCells=Q):(W.putObj l bX).ownsRow L e aL v n i:=by
 refine⟨h.1, ?_⟩;rcases h.2 with h0 | ⟨g,cap,cur,rfl,h1,ab,rest⟩
 ·exact .inl h0
 ·exact .inr ⟨g,cap,cur,rfl,h1,ma ab av ap,rest⟩
theorem mG{Z:Nat}{w W:ac}{l:Nat}{bX:Obj}(h:Below Z w W)(aK:Z<=l)(M:Z<=W.heap.size):Below Z w (W.putObj l bX):=
 h.grown (grownBy_putObj' W l bX) M (fun k e=>by cases e;exact aK)
theorem qL{W W':ac}{row:Option Nat}{g:Nat}{cs:Array ae}{t:dK}(h:W.heap[g]? =D (.cells cs t (0,0)))(I:W.grownBy W' row)(c:∀r,row=D r->∃af:Obj,W.heap[r]? =D af/\af.isWalk=S):W'.heap[g]? =D (.cells cs t (0,0)):=
 (grownBy_keeps I c h rfl).trans h
theorem uW{W W':ac}{row:Option Nat}{L n aL:Nat}{e:dK}{v:ae}{i:List ae}(h:W.ownsRow L e aL v n i)(I:W.grownBy W' row)(c:∀r,row=D r->∃af:Obj,W.heap[r]? =D af/\af.isWalk=S):W'.ownsRow L e aL v n i:=by
 refine⟨h.1, ?_⟩;rcases h.2 with h0 | ⟨g,cap,cur,rfl,h1,ab,rest⟩
 ·exact .inl h0
 ·exact .inr ⟨g,cap,cur,rfl,h1,qL ab I c,rest⟩
def yb{b:Type}(z:List b->ac->Prop)(i:List b)(W:ac):Exit->Act->ac->Prop
 | .normal,_,W'=>KeepsOthers W W'/\z i W'
 | .ret,_,_=>False
 | .exit _,_,_=>False
 | .goto _,_,_=>False
 | .panic _,_,_=>False
 | .outgrown,_,_=>False
variable {R:Fence} {n:Nat} {P:Program}
theorem vi{b:Type}{g:Operand}{ps:Array Tmp}{assign body:Code}{aA:Exit->Act->ac->Prop}{a:Act}{w:ac}
  (a7:R.round=F) (h1:1<=n) {cw:Nat} {cR:Array ae} (I:a.eval g= eO (.func cw) #[] cR) (aP:R.fn cw) (aO:∀args w,(callFunc cw args).run P w= .ok (.enter cw args) w)
  {enc:b->ae} {ao:List b->Prop} {N:Nat} {az:ac} (a8:SeqGives R (n-1) P cw cR enc ao N az)
  (aG:Below az.heap.size az w) (a6:ps.size=1)
  (z:List b->ac->Prop) (au:AbidesFrom w.heap.size z) (aD:∀s W l af bX,w.heap.size<=l->z s W->W.heap[l]? =D af->af.isCells=Q->z s (W.putObj l bX))
  (h0:z [] w) (aC:b->ac->Act) (an:List b->b->ac->ac->Prop) (aS:∀s x ag W l af bX,w.heap.size<=l->an s x ag W->W.heap[l]? =D af->af.isCells=Q->an s x ag (W.putObj l bX))
  (aZ:∀(l:Nat) (y:List b) (x:b) (W:ac) (K:Act->ac->Prop),z y W->y.length < N->(∀W',KeepsOthers W W'->an y x W W'->K (aC x W) W')->
   assign.wpIn (R.inRound l) (n-1-1) P (Exit.then K (fun _ _ _=>False)) {tmps:=(ps.zip #[enc x]).foldl (fun t (p,v)=>t.setIfInBounds p v) a.tmps,defers:= []} W)
  (a0:∀(l:Nat) (y:List b) (x:b) (ag W:ac),y.length < N->an y x ag W->body.wpIn (R.inRound l) (n-1-1) P (yb z (y++ [x]) W) (aC x ag) W)
  (a2:∀(ar:Nat) (i:List b) (W:ac),w.heap.size<=ar->ao i->z i W->W.heap[ar]? =D (.deferred (D []))->aA .normal {a with defers:={target:= .collected ar,args:=#[]}::a.defers} W):
  (Code.rangeFunc g ps assign body).wpIn R n P aA a w:=by
 refine wpIn_rangeFunc fun fn hfn=> ?_;rw[a7];obtain⟨G,J⟩:∃G:LoopState->Loop,G=fun b6=>{state:=b6,pending:=F,fn,tmps:=a.tmps,params:=ps,assign,body,defers:=w.heap.size}:=⟨_,rfl⟩;obtain⟨E,T⟩:∃E,(w.alloc (.deferred (D []))).alloc (.loop (G .ready))=E:=⟨_,rfl⟩;have aU:E.heap[w.heap.size+1]? =D (.loop (G .ready)):=by
  rw[<-T];have:=aQ (w.alloc (.deferred (D []))) (.loop (G .ready))
  rwa [em] at this
 have aT:E.heap[w.heap.size]? =D (.deferred (D [])):=by
  rw[<-T];exact aW (aQ w _) _
 have a1:Below w.heap.size w E:=by
  rw[<-T];exact(aV w _).alloc (by simp) _
 have bi:w.heap.size+2<=E.heap.size:=by
  rw[<-T];simp
 have aR:z [] E:=by
  rw[<-T];exact au _ _ _ F (au _ _ _ F h0 (sj w _ F) (fun r e=>by cases e)) (sj _ _ F) (fun r e=>by cases e)
 refine⟨w.heap.size+1, [{target:= .collected w.heap.size,args:=#[]}],E,{target:= .fn (.func cw) cR,args:=#[eO (.yield (w.heap.size+1)) #[] #[]]},E,cw,
  #[eO (.yield (w.heap.size+1)) #[] #[]]++cR,E, ?_, ?_, ?_, ?_,fun _=>h1, ?_⟩
 ·rw[<-T,J]
  exact run_enterLoop_outer _ _ _ _ _
 ·simp only[resolve,I]
  simp[go_sem]
 ·intro bh aH
  simp[Target.leads] at aH;subst aH;exact aP
 ·simp[invoke,go_sem,aO]
 refine(a8 (w.heap.size+1) (fun y W=>z y W/\W.heap[w.heap.size+1]? =D (.loop (G .ready))/\W.heap[w.heap.size]? =D (.deferred (D []))) E
  (aG.trans (a1.mono aG.size)) (fun s A Z row M I c=>⟨au _ _ _ row M.1 I (fun r e=>⟨by have:=(c r e).1;omega,(c r e).2⟩),
   (I.block _ (am M.2.1) (fun e=>by have:=(c _ e.symm).1;omega)).trans M.2.1,(I.block _ (am M.2.2) (fun e=>by have:=(c _ e.symm).1;omega)).trans M.2.2⟩) ?_ ⟨aR,aU,aT⟩).mono ?_
 ·rintro y x W ⟨al,av,ah⟩ aF
  have aJ:=am av;have ax:=run_yield (P:=P) (args:=#[enc x]) av (by rw[J];simp[a6]);rw[J] at ax;refine⟨fn,_,assign,body,ax,roundIn_of_wpIn hfn (aZ _ y x W _ al aF (fun W' ai aI=> ?_))⟩;clear ax;have aM:=ai.walks;replace av:=ai.same _ _ av rfl;replace ah:=ai.same _ _ ah rfl;replace aJ:=am av;generalize aY:W=WW at aM aI al ai;clear aY al ai;obtain⟨W,hW'⟩:∃W,W=W':=⟨_,rfl⟩;subst hW';refine⟨_,run_beginRound av (by rw[J]), ?_⟩;have a5:(W.putObj (w.heap.size+1) (.loop {G .ready with state:= .busy})).heap[w.heap.size+1]? =D (.loop {G .ready with state:= .busy}):=wu aJ;have a4:(W.putObj (w.heap.size+1) (.loop {G .ready with state:= .busy})).heap[w.heap.size]? =D (.deferred (D [])):=(qi (by omega)).trans ah
  have a9:KeepsWalks W (W.putObj (w.heap.size+1) (.loop {G .ready with state:= .busy})):=wn _ av rfl;refine wpIn_mono (a0 _ y x WW _ aF (aS _ _ _ _ _ _ _ (by omega) aI av rfl)) ?_;rintro e bg bf V
  cases e with
  | normal=>
   obtain⟨aw,a3⟩:=V;have ak:=aw.same _ _ a5 rfl;have c:=run_endRound (P:=P) F ak;rw[J] at c ak;refine⟨_,_,c,rfl,⟨aD _ _ _ _ _ (by omega) a3 ak rfl, ?_,(qi (by omega)).trans (aw.same _ _ a4 rfl)⟩,(aM.trans (a9.trans aw.walks)).trans (wn _ ak rfl)⟩;rw[wu (am ak),J];rfl
  | ret=>exact V.elim
  | exit id=>exact V.elim
  | goto t=>exact V.elim
  | panic ch=>exact V.elim
  | outgrown=>exact V.elim
 rintro e be ⟨⟨v,rfl⟩,i,aX,al,av,ah⟩;have c:=run_endLoop (P:=P) av (by rw[J];simp);rw[J] at c;exact⟨F,_,c,a2 _ i _ ce aX (aD _ _ _ _ _ (by omega) al av rfl) ((qi (by omega)).trans ah)⟩
end
section
open Go.RowKit Go.Maps Go.Sort Go.Shelf
attribute [local go_sem] Oper.semAt_some
structure oO{b:Type}(k:KD b)(ao:b->Prop)(aE:List b):Prop where
 nodup:aE.Nodup
 mem:∀a,a ∈ aE↔k.ok a/\ao a
theorem uS{w:ac}{L aL n:Nat}{e:dK}{v:ae}{i:List ae}(h:w.ownsRow L e aL v n i):v.ownBlock≠D w.heap.size:=fun e=>by
 have:=(h.lt _ e).2;omega
end
end
section
set_option maxRecDepth 100000
section
open Go.RowKit Go.Maps Go.Sort Go.Shelf
attribute [local go_sem] Oper.semAt_some
abbrev gD:KD ah:=iN.toKD
theorem zA{H:Type}(y:Fence)(n:Nat)(aP:y.fn 109)(aA:y.round=F)(hn:1<=n)(l L b V N:Nat)(I:DataW H){ak:ae->Option (DataW H×List MemPlace)}(g:ah->Prop)(aH:kQ gD I g)(M:∀aE:List ah,aE.Nodup->(∀a ∈ aE,gD.ok a/\g a)->aE.length<=N)(G:List ah->ac->Prop)
  (aY:∀i x W,G i W->i.length < N->YieldAt y (n-1) aj l #[gD.enc x] W fun e W'=>e= .returned (.bool S)/\G (i++ [x]) W'/\KeepsWalks W W')
  (W:ac) (aw:AbidesFrom W.heap.size G) (bm:W.cell? ⟨L,0,F⟩=D (.map (D b))) (aL:W.ownsMap aj 53 ak b V I) (h0:G [] W):
  CallsIn y n aj 109 #[eO (.yield l) #[] #[], ad (D ⟨L,0,F⟩)] W fun e W'=>(∃v,e= .returned v)/\∃aE:List ah,oO gD g aE/\G aE W':=by
 refine callsIn_of_wp Tryz.func109 rfl aP ?_ aA;simp only[Tryz.ntmps109,jt,fJ,j5,ka,kb,jY,jZ,j9,j2,j7,jq]
 gi_wp2_with (first
  | (gi_at_range;refine wpListIn_range_own _ rfl _ 60 rfl 53 22 gD.law Tryz.underlying60 _ b V _ rfl aL ?_;intro cl b5 bS cK)
  | gi_in)
 go_frame
 gi_loopw [3] (fun _ wr=>∃(left:Lit->Bool) (bf:Nat) (aE:List ah),wr.ranges aj 53 ak b W.heap.size V I left bf/\gq gD I g left aE/\G aE wr)
  (fun _ wr=>wr.rangeLeft b W.heap.size)
 case atStart=>
  exact⟨_,_, [],b5,gq.start aH,aw [] W cl F h0 bS (fun r e=>by cases e)⟩
 obtain⟨left,bf,aE,a5,au,bh⟩:=hrel
 gi_wp2_with (first
  | (gi_at_next;refine wpListIn_next_ranges _ rfl _ rfl 53 gD.law ak id id (fun key cj aF=>⟨key,rfl⟩) (fun v _ _=>⟨v,rfl⟩) b W.heap.size V _ _ _ rfl a5 ?_ ?_)
  | gi_in)
 ·-- nothing is left
  intro cD bV
  gi_wp2
  go_end0
  exact⟨⟨_,rfl⟩,aE,⟨au.nodup,fun a=>⟨fun h=>au.ok a h,fun h=>au.done bV h.1 h.2⟩⟩,bh⟩
 -- an entry has come
 intro x c cj cY cZ ai bA bU bY bs bK a6 a2 aZ b8 cE;obtain⟨a,aM,b3,J,bZ,bJ⟩:=au.bl aH bU bY bK;have aS:=au.step b3 J bZ bJ;have bW:aE.length < N:=by
  have:=M (aE++ [a]) aS.nodup aS.ok;simp at this;omega
 have aM:x= aq #[.int o a.1, .int o a.2.1, .int o a.2.2]:=aM;subst aM;have bF:G aE ai:=aw aE wr ai (D W.heap.size) bh aZ (fun r e=>by cases e;exact⟨ce,a5.iter_walk⟩);have aU:G aE (ai.alloc (Y #[.int o a.1, .int o a.2.1, .int o a.2.2] 53)):=aw aE ai _ F bF (sj ai _ F) (fun r e=>by cases e);obtain⟨fn,tmps,assign,body,bt,bI⟩:=aY aE a _ aU bW;have a6:=a6.of_walks (KeepsWalks.alloc ai (Y #[.int o a.1, .int o a.2.1, .int o a.2.2] 53));have bt:(Instr.yield l #[aq #[.int o a.1, .int o a.2.1, .int o a.2.2]]).run aj (ai.alloc (Y #[.int o a.1, .int o a.2.1, .int o a.2.2] 53))=_:=bt;clear b8 aM
 gi_wp2
 refine bI.mono ?_;rintro e cy ⟨rfl,aU,bT⟩
 gi_wp2
 have bp:=a6.of_walks bT;go_roundw
 case rel=>exact⟨_,bA,aE++ [a],bp,aS,aU⟩
 case measure=>rw[bp.left_eq,a5.left_eq];exact a2
theorem zC(y:Fence)(n:Nat)(ar:y.fn 65)(aA:y.round=F)(aJ:Option Nat)(w:ac):
  CallsIn y n aj 65 #[.map aJ] w fun e Z=>e= .returned (eO (.func 109) #[] #[ad (D ⟨w.heap.size,0,F⟩)])/\Z=w.alloc (Y #[.map aJ] 60):=by
 refine callsIn_of_wp Tryz.func65 rfl ar ?_ aA;simp only[Tryz.ntmps65,jt,fJ,j5,ka,kb,jY,jZ,j9,j2,j7,jq]
 gi_wp2
 go_ret;exact⟨rfl,rfl⟩
theorem zB{H:Type}(y:Fence)(n:Nat)(aP:y.fn 109)(aA:y.round=F)(hn:1<=n)(L b V N:Nat)(I:DataW H){ak:ae->Option (DataW H×List MemPlace)}(g:ah->Prop)(aH:kQ gD I g)(M:∀aE:List ah,aE.Nodup->(∀a ∈ aE,gD.ok a/\g a)->aE.length<=N)
  (w:ac) (bE:L < w.heap.size) (bm:w.cell? ⟨L,0,F⟩=D (.map (D b))) (aL:w.ownsMap aj 53 ak b V I):
  SeqGives y n aj 109 #[ad (D ⟨L,0,F⟩)] gD.enc (oO gD g) N w:=fun l G W hW aw aY h0=>by
 have b4:W.ownsMap aj 53 ak b V I:=by
  have bP:=aL.lt;obtain⟨bC,bz,bN,bu,b7,aT⟩:=aL;exact⟨bC,bz,(hW.block b bP).trans bN,bu,b7,aT⟩
 exact zA y n aP aA hn l L b V N I g aH M G aY W aw ((hW.cell (p:=⟨L,0,F⟩) bE).trans bm) b4 h0
theorem wP(n cw:Nat)(cR:Array ae)(ap:∀args w,(callFunc cw args).run aj w= .ok (.enter cw args) w)(g:List ah->Prop)(N:Nat)(w:ac)(hn:3<=n)(M:N<=100000)(P:SeqGives fR (n-1) aj cw cR gD.enc g N w):
  CallsIn fR n aj 132 #[O F 0 0, eO (.func cw) #[] cR] w fun e Z=>∃v aE,e= .returned v/\g aE/\aE.length<=N/\Z.ownsRow w.heap.size 53 3 v aE.length (bn aE)/\Below w.heap.size w Z:=by
 have P:=P.bounded;have bw:=R P;clear P;refine callsIn_of_wp_marks Tryz.func132 rfl trivial ?_ rfl;simp only[Tryz.ntmps132,jt,fJ,j5,ka,kb,jY,jZ,j9,j2,j7,jq]
 gi_wp2_with (fail)
 have a8:(w.alloc (Y #[O F 0 0] 54)).heap[w.heap.size]? =D (Y #[O F 0 0] 54 (0,0)):=dE _ rfl;have T:Below w.heap.size w (w.alloc (Y #[O F 0 0] 54)):=aV _ _;generalize w.alloc (Y #[O F 0 0] 54)=W0 at a8 T |-;refine vi rfl (by omega) (cw:=cw) (cR:=cR) rfl trivial ap bw.out T rfl
  (fun i W=>∃v,W.heap[w.heap.size]? =D (Y #[v] 54 (0,0))/\W.ownsRow W0.heap.size 53 3 v i.length (bn i)/\Below w.heap.size w W/\i.length<=N/\W0.heap.size<=W.heap.size)
  (fun s A C row ⟨v,h1,ab,ag,az,z⟩ aD a4=>⟨v,qL h1 aD (fun r e=>(a4 r e).2),uW ab aD (fun r e=>(a4 r e).2),ag.grown aD ag.size (fun k e=>ec T.size (a4 k e).1),az,ec z aD.size⟩)
  (fun s W l af bX aK ⟨v,h1,ab,ag,az,z⟩ av E=>⟨v,ma h1 av E,nd ab av E,mG ag (ec T.size aK) ag.size,az,ec z (grownBy_putObj' W l bX).size⟩)
  ⟨O F 0 0,a8,gl _ _ _ _,T,oK _,ce⟩
  (fun x W=>{tmps:=#[O F 0 0, eO (.func cw) #[] cR, ad (D ⟨w.heap.size,0,F⟩),U, O F 0 0, ad (D ⟨W.heap.size,0,F⟩), eO (.func cw) #[] cR, aq #[.int o x.1, .int o x.2.1, .int o x.2.2],U,U,U,U,U],defers:= []})
  (fun i x ao W=>∃v,W.heap[w.heap.size]? =D (Y #[v] 54 (0,0))/\W.ownsRow W0.heap.size 53 3 v i.length (bn i)/\Below w.heap.size w W/\i.length<=N/\W0.heap.size<=W.heap.size/\W.heap[ao.heap.size]? =D (Y #[.int o x.1, .int o x.2.1, .int o x.2.2] 53 (0,0))/\v.ownBlock≠D ao.heap.size/\W0.heap.size<=ao.heap.size)
  (fun s x ao W l af bX aK ⟨v,h1,ab,ag,az,z,aC,ar,bL⟩ av E=>⟨v,ma h1 av E,nd ab av E,mG ag (ec T.size aK) ag.size,az,ec z (grownBy_putObj' W l bX).size,ma aC av E,ar,bL⟩)
  ?assign ?body ?done
 case assign=>
  rintro l i x W K ⟨v,h1,ab,ag,az,z⟩ a2 ax;have bj:gD.enc x= aq #[.int o x.1, .int o x.2.1, .int o x.2.2]:=rfl;rw[bj];clear bj;have bi:=ax (W.alloc (Y #[.int o x.1, .int o x.2.1, .int o x.2.2] 53)) (qd _ _) ⟨v,aW h1 _,ab.alloc _,ag.alloc ag.size _,az,by simp;omega,aQ W _,uS ab,z⟩;have bv:=R bi;clear ax bi h1 ab ag az
  gi_wp2
  exact bv.out
 case body=>
  rintro l i x ao W a2 ⟨v,h1,ab,ag,az,z,aC,ar,bL⟩;obtain⟨cV,cW,cX⟩:=dl aC;have a0:=aB h1 0;simp only[cP,cU,cO] at a0;have cJ:w.heap.size < W0.heap.size:=am a8;have cC:=am h1;obtain⟨ci,al,cd,cg,ch⟩:=info_parts jm;obtain⟨a9,an,be⟩:=cq h1 ab ag;clear h1 ab ag aC ar
  gi_wp2_with (first | (gi_at_builtin;refine wpListIn_append_own _ rfl (.tmp 8) (.tmp 10) 54 rfl W0.heap.size 53 ci (aq #[.int o 0, .int o 0, .int o 0]) 3 24 Tryz.underlying54 al cd cg ch rfl (by decide) v i.length (bn i) rfl (bo an.out (aV _ _)) ⟨W.heap.size,0,F⟩ 1 1 [.int o x.1, .int o x.2.1, .int o x.2.2] rfl rfl (uP W _ _) (jX _ _ _) (by unfold maxLen;omega) (by omega) (by simp;omega) ?_;intro cQ co a3 bk _;obtain⟨bg,dk,cA,ca,_,_,_,_⟩:=dF a3 (by omega);subst ca;have aR:Below W0.heap.size (W.alloc (Y #[.int o x.1, .int o x.2.1, .int o x.2.2] 53)) co:=aX.grown bk (by simp;omega) (fun k aF=>(an.out.lt k aF).1);have aN:=aG (aW a9.out _) aR (by omega);have cv:=aB aN 0;simp only[cP,cU] at cv;have cB:=br aN;have cL:=am aN))
  have b6:=bo an.out (aV W (Y #[.int o x.1, .int o x.2.1, .int o x.2.2] 53));have bQ:=im b6;refine⟨?_, O (D ⟨bg,0,F⟩) (i.length+1) dk, ?_, ?_, ?_,by simp;omega,by rw[World.size_setCell];have:=aR.size;simp at this;omega⟩;·exact(qd _ _).trans ((KeepsOthers.of_grownBy bk (fun j af a1 E=>by obtain⟨cs,z⟩:=bQ j a1;rw[z] at E;rw[<-cn E];rfl)).trans (KeepsOthers.setCell _ _ _))
  ·have:=bq aN 0 (O (D ⟨bg,0,F⟩) (i.length+1) dk)
   simpa using this
  ·rw[List.length_append,List.length_singleton,jl,show bn [x]= [.int o x.1, .int o x.2.1, .int o x.2.2] from rfl]
   exact dg a3 (fun k aF=>by have:=(a3.lt k aF).1;omega) 0 _
  ·exact(be.out.trans (((aV W _).mono be.out.size).trans (aR.mono (show w.heap.size<=W0.heap.size by omega)))).setCell (by simp) _
 rintro cx cr W aT ⟨J,cb⟩ ⟨v,h1,ab,ag,az,z⟩ ax;have ck:=aB h1 0;simp only[cP,cU] at ck;obtain⟨a9,an,du⟩:=cq h1 ab J;clear h1 ab J
 gi_wp2
 refine⟨by simp, .inl ⟨_,_,rfl,run_takeDeferred ax, ?_⟩⟩;have bG:=nd (bX:= .deferred F) an.out ax rfl;have bH:=mG (bX:= .deferred F) ag (ec T.size aT) ag.size;exact⟨v,by simp[results,Tryz.results132,go_sem],v,cr,rfl,du.out,cb,dn bG T.size,bH⟩
theorem xK(n cw:Nat)(cR:Array ae)(ap:∀args w,(callFunc cw args).run aj w= .ok (.enter cw args) w)(g:List ah->Prop)(N:Nat)(w:ac)(hn:4<=n)(M:N<=100000)(P:SeqGives fR (n-1-1) aj cw cR gD.enc g N w):
  CallsIn fR n aj 107 #[eO (.func cw) #[] cR] w fun e Z=>∃v aE,e= .returned v/\g aE/\aE.length<=N/\Z.ownsRow w.heap.size 53 3 v aE.length (bn aE)/\Below w.heap.size w Z:=by
 have aO:=wP (n-1) cw cR ap g N w (by omega) M P;have h1:1<=n:=by omega
 have bR:fR.fn 132:=trivial;refine callsIn_of_wp Tryz.func107 rfl trivial ?_ rfl;simp only[Tryz.ntmps107,jt,fJ,j5,ka,kb,jY,jZ,j9,j2,j7,jq]
 gi_wp2_with (gi_at_call 132;refine aO.mono ?_;rintro e cT ⟨v,aE,rfl,J,av,E,ay⟩)
 go_ret;exact⟨v,aE,rfl,J,av,E,ay⟩
theorem Cz(n cw:Nat)(cR:Array ae)(ap:∀args w,(callFunc cw args).run aj w= .ok (.enter cw args) w)(g:List ah->Prop)(N:Nat)(w:ac)(hn:5<=n)(M:N<=100000)(P:SeqGives fR (n-1-1-1) aj cw cR gD.enc g N w):
  CallsIn fR n aj 64 #[eO (.func cw) #[] cR, eO (.func 66) #[] #[]] w fun e Z=>∃v aE,e= .returned v/\g aE/\aE.length<=N/\Z.ownsRow w.heap.size 53 3 v aE.length (bn (gF aE))/\Below w.heap.size w Z:=by
 have aO:=xK (n-1) cw cR ap g N w (by omega) M P;have h1:1<=n:=by omega
 have bR:fR.fn 107:=trivial;have cG:fR.fn 108:=trivial;refine callsIn_of_wp Tryz.func64 rfl trivial ?_ rfl;simp only[Tryz.ntmps64,jt,fJ,j5,ka,kb,jY,jZ,j9,j2,j7,jq]
 gi_wp2_with (gi_at_call 107;refine aO.mono ?_;rintro e W ⟨v,aE,rfl,J,av,a7,ay⟩)
 rcases a7.2 with ⟨bs,aI⟩ | ⟨bD,bx,cz,rfl,bO,cI,cN,ct,ee,cM⟩
 ·subst bs
  have b9:aE= []:=gm.1 aI;subst b9;have cS:=AnyF.slices_SortFunc_none vD F 0 (eO (.func 66) #[] #[]) W
  gi_wp2_with (gi_at_call 108;refine(callsIn_wide.2 cS).mono ?_;rintro e Z ⟨rfl,rfl⟩)
  go_ret;have bB:gF []= []:=by simp[gF]
  exact⟨O F 0 0, [],rfl,J,av,by rw[bB];exact a7,ay⟩
 have cS:=vE bD bx aE.length w.heap.size aE W rfl a7 (by omega)
 gi_wp2_with (gi_at_call 108;refine(callsIn_wide.2 cS).mono ?_;rintro e Z ⟨rfl,b2,aZ⟩)
 go_ret;exact⟨_,aE,rfl,J,av,b2,ay.grown aZ ay.size (fun j a1=>by cases a1;exact bO)⟩
end
end
section
set_option maxRecDepth 100000
open Go.RowKit
variable {a:Act}{K:Act->ac->Prop}{ops:Array Oper}{aw:Exit->Act->ac->Prop}{bytes aL:Nat}{af:Oper}{ax:Prop}{E T:dK}{z:ae}{w:ac}
theorem rT(bi:Tryz.prog.underlying T=D (.slice E))(V:(Tryz.prog.info? E).map (fun i=>(i.zero,i.size,i.bytes))=D (D z,aL,bytes))
  (av:z.cells.size=aL) (hsz:0 < aL)
         (ah:af.guard=F) (s x:Operand)
  (ai:af.op= .call {callee:= .builtin .append,args:=#[s,x],argTypes:=#[T,T]})
  (ak:a.eval s= O F 0 0) (A:Option cF) (n c:Nat) (l:List ae) (an:a.eval x= O A n c) (hA:A=F->c=0) (L:Rd w aL A n l) (h1:∀u ∈ l,u.oneCell'=S) (hn:n*bytes<=140737488351232) (aC:n<=140737488351232)
  (h:∀a8 Z,Z.ownsRow w.heap.size E aL a8 n l->Below w.heap.size w Z->K (a.put af.dst a8) Z):
  if eP af (yielded ops a.tmps)=S then Oper.wp aj af a w K aw else ax:=by
 cases A with
 | some ay=>
  have N:eP af (yielded ops a.tmps)=S:=by simp[eP,ah]
  rw[if_pos N];obtain⟨R,al,ao,ap,ar⟩:=info_parts V;have J:∀j u,l[j]? =D u->w.cell? (ay.add j)=D u:=by
   intro j u am;rcases nM n with h0 | h0
   ·subst h0
    have:l= []:=gm.1 (by simpa using L.1);subst this;simp at am
   obtain⟨b,aD,e,_,hc⟩:=L.2 h0;injection e with e
   subst e;rw[fW];exact hc j u am
  obtain⟨a8,Z,M,ab,ag,_,y⟩:=run_append_own_at (P:=aj) w w.heap.size T af.type E R z aL bytes bi al ao ap ar av hsz (O F 0 0) 0 [] (gl _ _ _ _) ay n c l L.1 J h1 (by simp only[maxLen];omega) (by rw[fT];omega) ce;unfold Oper.wp execOp;simp only[ai,resolve,invoke,builtin,Sem.run_bind,Sem.run_pure,Result.andThen_ok,List.map_toArray,List.map_cons,List.map_nil,ak,an,M];exact h a8 Z (by simpa using ab) (aX.grown ag ce (fun k au=>by cases au))
 | none=>
  have N:eP af (yielded ops a.tmps)=S:=by simp[eP,ah]
  rw[if_pos N];obtain⟨R,al,ao,ap,ar⟩:=info_parts V;have r:n=0:=by
   rcases nM n with r | r
   ·exact r
   obtain⟨b,aD,e,_⟩:=L.2 r;cases e
  subst r;have hc:=hA rfl;subst hc;have J:l= []:=gm.1 (by simpa using L.1);subst J;have M:=run_append_owned_none (P:=aj) (w:=w) w.heap.size T af.type E R aL bi al (O F 0 0) 0 [] (gl _ _ _ _);unfold Oper.wp;simp[execOp,ai,resolve,invoke,builtin,ak,an,M,Result.andThen];exact h _ _ (gl _ _ _ _) aX
theorem CP(bi:Tryz.prog.underlying T=D (.slice E))(V:(Tryz.prog.info? E).map (fun i=>(i.zero,i.size,i.bytes))=D (D z,aL,bytes))
  (av:z.cells.size=aL) (hsz:0 < aL)
         (ah:af.guard=F) (s x:Operand)
  (ai:af.op= .call {callee:= .builtin .append,args:=#[s,x],argTypes:=#[T,T]})
  (I:Nat) (v:ae) (n:Nat) (l G:List ae) (ak:a.eval s=v) (aA:w.ownsRow I E aL v n l) (az:I<=w.heap.size)
  (m g:Nat) (an:a.eval x= O (D ⟨g,0,F⟩) m m) (aB:w.heap[g]? =D (.cells G.toArray E (0,0))) (r:G.length=m*aL) (h1:∀u ∈ G,u.oneCell'=S) (hn:(n+m)*bytes<=140737488351232) (aC:n+m<=140737488351232)
  (h:∀a8 Z,Z.ownsRow I E aL a8 (n+m) (l++G)->Below I w Z->fm w Z v a8->K (a.put af.dst a8) Z):
  if eP af (yielded ops a.tmps)=S then Oper.wp aj af a w K aw else ax:=by
 have N:eP af (yielded ops a.tmps)=S:=by simp[eP,ah]
 rw[if_pos N];obtain⟨R,al,ao,ap,ar⟩:=info_parts V;have J:∀j u,G[j]? =D u->w.cell? ((⟨g,0,F⟩:cF).add j)=D u:=by
  intro j u am;rw[fW,cell_of_row w g (0+j) _ _ (0,0) aB];simpa using am
 obtain⟨a8,Z,M,ab,ag,_,y⟩:=run_append_own_at (P:=aj) w I T af.type E R z aL bytes bi al ao ap ar av hsz v n l aA ⟨g,0,F⟩ m m G r J h1 (by simp only[maxLen];omega) (by omega) az;unfold Oper.wp execOp;simp only[ai,resolve,invoke,builtin,Sem.run_bind,Sem.run_pure,Result.andThen_ok,List.map_toArray,List.map_cons,List.map_nil,ak,an,M];refine h a8 Z ab (aX.grown ag az (fun k au=>(aA.lt k au).1)) ⟨ag, ?_⟩;rcases y with y | y
 ·exact .inl y
 ·exact .inr ⟨_,y,ce⟩
end
section
open Go.RowKit Go.Maps
theorem rU(x y k:Int)(A:Option cF)(n c:Nat):∀u ∈ [Value.int o x, B o y, B o k, O A n c],u.oneCell'=S:=by
 intro u V;simp only[List.mem_cons,List.not_mem_nil,or_false] at V;rcases V with rfl | rfl | rfl | rfl <;> rfl
theorem rY(l:List ah):∀u ∈ bn l,u.oneCell'=S:=by
 intro u V;obtain⟨t,_,ht⟩:=List.mem_flatMap.1 V;exact jX _ _ _ u ht
theorem vq:∀{aE:List aP} {bx:List ae} (s:aP) (v:ae),bx.length=aE.length->fG (aE++ [s]) (bx++ [v])=fG aE bx++ [B o s.1.1, B o s.1.2.1, B o s.1.2.2,v]
 | [], [],s,v,_=>rfl
 | [],_::_,s,v,h=>by simp at h
 | a::aE, [],s,v,h=>by simp at h
 | a::aE,b::bx,s,v,h=>by
  have:=vq (aE:=aE) (bx:=bx) s v (by simpa using h);simp only[jq,fG,this]
theorem rS:(Tryz.prog.info? 56).map (fun i=>(i.zero,i.size,i.bytes))=D (D (aq #[B o 0, B o 0, B o 0, O F 0 0]),4,48):=by kernel_rfl
theorem oq{w:ac}{z n aL c:Nat}{e:dK}{A:Option cF}{G:List ae}(h:w.ownsRow z e aL (O A n c) n G):A=F->c=0:=by
 obtain⟨au,aw,ak,h1⟩:=uU h;cases ak
 exact h1
structure dv(w:ac)(z:Nat)(v:ae)(sts:List aP):Prop where
 ex:∃bx:List ae,bx.length=sts.length/\w.ownsRow z 56 4 v sts.length (fG sts bx)/\∀(i:Nat) (s:aP),sts[i]? =D s->∃u,bx[i]? =D u/\w.ownsRow z 53 3 u s.2.length (bn s.2)
section
variable {w Z:ac} {z:Nat} {v a8 u:ae} {sts:List aP}
theorem dv.nil(w:ac)(z:Nat):dv w z (O F 0 0) []:=⟨[],rfl,gl _ _ _ _,fun i s h=>by simp at h⟩
theorem dv.below(h:dv w z v sts)(K:Below w.heap.size w Z):dv Z z v sts:=by
 obtain⟨bx,h0,h1,ab⟩:=h.ex;exact⟨bx,h0,bo h1 K,fun i s J=>by obtain⟨u,ag,az⟩:=ab i s J;exact⟨u,ag,bo az K⟩⟩
theorem dv.mono{av:Nat}(h:dv w z v sts)(K:av<=z):dv w av v sts:=by
 obtain⟨bx,h0,h1,ab⟩:=h.ex;exact⟨bx,h0,dn h1 K,fun i s J=>by obtain⟨u,ag,az⟩:=ab i s J;exact⟨u,ag,dn az K⟩⟩
theorem dv.set{g:Nat}{t:dK}{cs:Array ae}(h:dv w z v sts)(r:w.heap[g]? =D (.cells cs t (0,0)))(h1:56≠t)(ab:53≠t)(i:Nat)(x:ae):dv (w.setCell ⟨g,i,F⟩ x) z v sts:=by
 obtain⟨bx,h0,ag,az⟩:=h.ex;exact⟨bx,h0,dg ag (fun k N e=>dy ag r h1 (by rw[N,e])) i x,fun aD s J=>by
  obtain⟨u,ap,ay⟩:=az aD s J;exact⟨u,ap,dg ay (fun k N e=>dy ay r ab (by rw[N,e])) i x⟩⟩
theorem dv.row(h:dv w z v sts):∃G,w.ownsRow z 56 4 v sts.length G/\∀{Z:ac} {a8 u:ae} (s:aP),fm w Z v a8->w.ownsRow z 53 3 u s.2.length (bn s.2)->Z.ownsRow z 56 4 a8 (sts.length+1) (G++ [B o s.1.1, B o s.1.2.1, B o s.1.2.2,u])->dv Z z a8 (sts++ [s]):=by
 obtain⟨bx,h0,h1,ab⟩:=h.ex;refine⟨fG sts bx,h1,fun {Z a8 u} s r V ar=>⟨bx++ [u],by simp[h0],by rw[vq s u h0];simpa using ar,fun i aJ J=> ?_⟩⟩;rcases Nat.lt_or_ge i sts.length with al | al
 ·rw[hS al] at J
  obtain⟨x,ag,az⟩:=ab i aJ J;exact⟨x,by rw[hS (by omega)];exact ag,l7 az r (l6 az h1 (by decide))⟩
 have aC:i=sts.length:=by
  have:=(bM.1 J).1;simp at this;omega
 subst aC;simp at J;subst J;exact⟨u,by rw[<-h0];simp,l7 V r (l6 V h1 (by decide))⟩
theorem dv.rd{A:Option cF}{n c:Nat}(h:dv w z (O A n c) sts)(hn:n=sts.length)(ar:∀s ∈ sts,(bj s.1.1/\bj s.1.2.1/\bj s.1.2.2)/\∀t ∈ s.2,bj t.1/\bj t.2.1/\bj t.2.2)(aI:∀s ∈ sts,s.2.length<=140737488351232)(J:n<=140737488351232):en w A n sts:=by
 obtain⟨bx,h0,h1,ab⟩:=h.ex;subst hn;refine⟨rfl,⟨bx,Rd.dB h1,fun i s al=> ?_⟩,ar,J⟩;obtain⟨u,ag,az⟩:=ab i s al;obtain⟨au,aw,ak,ap,_⟩:=dd az;subst ak;exact⟨au,aw,ag,Rd.dB az,aI s (cH al),ap,oq az⟩
theorem dv.nr(h:dv w z v sts):∃A c,v= O A sts.length c:=by
 obtain⟨bx,h0,h1,ab⟩:=h.ex;obtain⟨A,c,ak,_⟩:=dd h1;exact⟨A,c,ak⟩
end
theorem e0{w:ac}{z aL n g:Nat}{e t:dK}{v:ae}{G:List ae}{cs:Array ae}(h:w.ownsRow z e aL v n G)(r:w.heap[g]? =D (.cells cs t (0,0)))(af:e≠t)(i:Nat)(x:ae):(w.setCell ⟨g,i,F⟩ x).ownsRow z e aL v n G:=dg h (fun k N e=>dy h r af (by rw[N,e])) i x
theorem hM{w:ac}{z aL n g:Nat}{e t:dK}{v:ae}{G:List ae}{cs:Array ae}(h:w.ownsRow z e aL v n G)(r:w.heap[g]? =D (.cells cs t (0,0)))(af:e≠t)(v0 v1 v2 v3 I L:ae):((((((w.setCell ⟨g,0,F⟩ v0).setCell ⟨g,1,F⟩ v1).setCell ⟨g,2,F⟩ v2).setCell ⟨g,3,F⟩ v3).setCell ⟨g,4,F⟩ I).setCell ⟨g,5,F⟩ L).ownsRow z e aL v n G:=(e0 (e0 (e0 (e0 (e0 (e0 h r af 0 v0) (bq r 0 v0) af 1 v1) (bq (bq r 0 v0) 1 v1) af 2 v2) (bq (bq (bq r 0 v0) 1 v1) 2 v2) af 3 v3) (bq (bq (bq (bq r 0 v0) 1 v1) 2 v2) 3 v3) af 4 I) (bq (bq (bq (bq (bq r 0 v0) 1 v1) 2 v2) 3 v3) 4 I) af 5 L)
theorem dv.jh{w:ac}{z g:Nat}{t:dK}{v:ae}{sts:List aP}{cs:Array ae}(h:dv w z v sts)(r:w.heap[g]? =D (.cells cs t (0,0)))(h1:56≠t)(ab:53≠t)(v0 v1 v2 v3 I L:ae):dv ((((((w.setCell ⟨g,0,F⟩ v0).setCell ⟨g,1,F⟩ v1).setCell ⟨g,2,F⟩ v2).setCell ⟨g,3,F⟩ v3).setCell ⟨g,4,F⟩ I).setCell ⟨g,5,F⟩ L) z v sts:=(dv.set (dv.set (dv.set (dv.set (dv.set (dv.set h r h1 ab 0 v0) (bq r 0 v0) h1 ab 1 v1) (bq (bq r 0 v0) 1 v1) h1 ab 2 v2) (bq (bq (bq r 0 v0) 1 v1) 2 v2) h1 ab 3 v3) (bq (bq (bq (bq r 0 v0) 1 v1) 2 v2) 3 v3) h1 ab 4 I) (bq (bq (bq (bq (bq r 0 v0) 1 v1) 2 v2) 3 v3) 4 I) h1 ab 5 L)
theorem kU{w:ac}{g:Nat}{t:dK}{a1 c1 c2 bV bC b8:ae}(r:w.heap[g]? =D (Y #[a1,c1,c2,bV,bC,b8] t (0,0)))(v0 v1 v2 v3 I L:ae):((((((w.setCell ⟨g,0,F⟩ v0).setCell ⟨g,1,F⟩ v1).setCell ⟨g,2,F⟩ v2).setCell ⟨g,3,F⟩ v3).setCell ⟨g,4,F⟩ I).setCell ⟨g,5,F⟩ L).heap[g]? =D (Y #[v0,v1,v2,v3,I,L] t (0,0)):=by
 have h:=(bq (bq (bq (bq (bq (bq r 0 v0) 1 v1) 2 v2) 3 v3) 4 I) 5 L);simpa using h
theorem kT{aA w:ac}{ao g:Nat}(h:Below ao aA w)(r:ao<=g)(v0 v1 v2 v3 I L:ae):Below ao aA ((((((w.setCell ⟨g,0,F⟩ v0).setCell ⟨g,1,F⟩ v1).setCell ⟨g,2,F⟩ v2).setCell ⟨g,3,F⟩ v3).setCell ⟨g,4,F⟩ I).setCell ⟨g,5,F⟩ L):=(nF (p:=⟨g,5,F⟩) (nF (p:=⟨g,4,F⟩) (nF (p:=⟨g,3,F⟩) (nF (p:=⟨g,2,F⟩) (nF (p:=⟨g,1,F⟩) (nF (p:=⟨g,0,F⟩) h r v0) r v1) r v2) r v3) r I) r L)
structure fV(w E:ac)(g:Nat)(W H:Int)(M C P R T:ae)(nm nc np:Nat)(mask:List Int)(cs:List bw)(ms:List aR)(sts:List aP)(wr:ac):Prop where
 bel:Below E.heap.size E wr
 d8:E.heap.size<=g
 bT:wr.heap[g]? =D (Y #[B o W, B o H,M,C,P,R] 29 (0,0))
 cN:wr.ownsRow w.heap.size 3 1 M nm (bF mask)
 ct:wr.ownsRow w.heap.size 129 5 C nc (cr cs)
 ee:wr.ownsRow w.heap.size 64 6 P np (b5 ms)
 dS:dv wr E.heap.size T sts
section
variable {w E wr Z:ac} {g:Nat} {W H:Int} {M C P R T ai:ae} {nm nc np:Nat} {mask:List Int} {cs:List bw} {ms:List aR} {sts:List aP}
theorem fV.below(h:fV w E g W H M C P R T nm nc np mask cs ms sts wr)(K:Below wr.heap.size wr Z):fV w E g W H M C P R T nm nc np mask cs ms sts Z:=
 ⟨ax h.bel K,h.d8,aG h.bT K (am h.bT),bo h.cN K,bo h.ct K,bo h.ee K,h.dS.below K⟩
theorem fV.cell(h:fV w E g W H M C P R T nm nc np mask cs ms sts wr):wr.cell? ⟨g,5,F⟩=D R:=by rw[aB h.bT 5];rfl
theorem fV.push(h:fV w E g W H M C P R T nm nc np mask cs ms sts wr){s:aP}{u:ae}(V:wr.ownsRow E.heap.size 53 3 u s.2.length (bn s.2)):∃G,wr.ownsRow E.heap.size 56 4 T sts.length G/\∀(ai:ae) (Z:ac),Z.ownsRow E.heap.size 56 4 ai (sts.length+1) (G++ [B o s.1.1, B o s.1.2.1, B o s.1.2.2,u])->Below E.heap.size wr Z->fm wr Z T ai->fV w E g W H M C P R ai nm nc np mask cs ms (sts++ [s]) Z:=by
 obtain⟨G,h1,ab⟩:=h.dS.row;refine⟨G,h1,fun ai Z aF aH an=>⟨h.bel.trans aH,h.d8,(an.grown.block g (am h.bT) (fun e=>dy h1 h.bT (by decide) e.symm)).trans h.bT,l7 h.cN an (l6 h.cN h1 (by decide)),l7 h.ct an (l6 h.ct h1 (by decide)),l7 h.ee an (l6 h.ee h1 (by decide)),ab s an V aF⟩⟩
theorem fV.store(h:fV w E g W H M C P R T nm nc np mask cs ms sts wr):fV w E g W H M C P T T nm nc np mask cs ms sts (wr.setCell ⟨g,5,F⟩ T):=
 ⟨h.bel.setCell (p:=⟨g,5,F⟩) h.d8 T,h.d8,by simpa using bq h.bT 5 T,dg h.cN (fun k N e=>dy h.cN h.bT (by decide) (by rw[N,e])) 5 T,dg h.ct (fun k N e=>dy h.ct h.bT (by decide) (by rw[N,e])) 5 T,dg h.ee (fun k N e=>dy h.ee h.bT (by decide) (by rw[N,e])) 5 T,h.dS.set h.bT (by decide) (by decide) 5 T⟩
end
end
section
set_option maxRecDepth 100000
open Go.RowKit Go.Maps
theorem qG{T E:dK}{z:ae}{aL bytes:Nat}(bi:Tryz.prog.underlying T=D (.slice E))(ap:(Tryz.prog.info? E).map (fun i=>(i.zero,i.size,i.bytes))=D (D z,aL,bytes))(aA:z.cells.size=aL)(hsz:0 < aL)
  {ops:Array Oper} {rest:List Oper} {af:Oper} {a:Act} {ai:Exit->Act->ac->Prop} (ar:af.guard=F) (s x:Operand) {w:ac}
  (av:af.op= .call {callee:= .builtin .append,args:=#[s,x],argTypes:=#[T,T]})
  (N:Nat) (v:ae) (aw:a.eval s=v) (G:w.ownsRow N E aL v 0 []) (ak:N<=w.heap.size)
  (K:cF) (m c:Nat) (r:List ae) (J:a.eval x= O (D K) m c) (ah:Rd w aL (D K) m r) (h1:∀u ∈ r,u.oneCell'=S) (hn:m*bytes<=140737488351232) (aD:m<=140737488351232)
  (h:∀a8 Z,Z.ownsRow N E aL a8 m r->Below N w Z->wpList aj ops ai rest (a.put af.dst a8) Z):
  wpList aj ops ai (af::rest) a w:=by
 obtain⟨aB,al,ax,ay,az⟩:=info_parts ap;refine wpList_append_own_at _ ar s x T av N E aB z aL bytes bi al ax ay az aA hsz v 0 [] aw G K m c r J ah.1 ?_
  h1 (by simp only[maxLen];omega) (by rw[fT];omega) ak ?_
 ·intro j u am
  have l:0 < m:=by
   have:=(bM.1 am).1;have:=ah.1;rcases nM m with h0 | h0
   ·rw[h0,Nat.zero_mul] at this;omega
   ·exact h0
  obtain⟨aC,aE,e,_,hc⟩:=ah.2 l;injection e with e
  subst e;rw[fW];exact hc j u am
 intro a8 Z h1 ab _ ag;exact h a8 Z (by simpa using h1) (aX.grown ab ak (fun k au=>(G.lt k au).1))
theorem sS(A:Option cF)(n c:Nat)(r:List Int)(w:ac)(h:Rd w 1 A n (bF r))(hA:A=F->c=0)(hn:n*8<=140737488351232):
  Calls aj 16 #[O A n c] w fun e Z=>∃y g,e= .returned (O y n g)/\Z.ownsRow w.heap.size 3 1 (O y n g) n (bF r)/\Below w.heap.size w Z:=by
 have ao:∀(w:ac) (a:Option cF) (n c I g:Nat),(binOp .eql 22 (O a n c) (O F I g)).run aj w= .ok (aa a.isNone) w:=fun w a n c I g=>sd w _ _ a n c I g Tryz.underlying22;have L:=R h
 cases A with
 | none=>
  have l:n=0:=by
   rcases nM n with l | l
   ·exact l
   obtain⟨b,an,e,_⟩:=h.2 l;cases e
  subst l;obtain rfl:=hA rfl;have J:bF r= []:=gm.1 (by simpa using h.1);have M:=R J;clear h J;go_in;go_wp2;go_ret;exact⟨F,0,rfl,by rw[M.out];exact gl _ _ _ _,aX⟩
 | some K=>
  clear h;go_in
  go_wp2_with (at_builtin;refine qG Tryz.underlying22 mT rfl (by decide) rfl (.tmp 5) (.tmp 6) rfl w.heap.size _ rfl (sk w #[] 0 ce (oK _) rfl) (by simp) K n c (bF r) rfl (L.out.alloc _) (we _) hn (by omega) ?_;intro a8 Z G P)
  go_wp2;obtain⟨y,g,V,_,_⟩:=dd G;subst V;go_ret;exact⟨y,g,rfl,G,(aV w _).trans (P.mono ce)⟩
theorem xy(A:Option cF)(n c:Nat)(r:List bw)(w:ac)(h:Rd w 5 A n (cr r))(hA:A=F->c=0)(hn:n*40<=140737488351232):
  Calls aj 106 #[O A n c] w fun e Z=>∃y g,e= .returned (O y n g)/\Z.ownsRow w.heap.size 129 5 (O y n g) n (cr r)/\Below w.heap.size w Z:=by
 have ao:∀(w:ac) (a:Option cF) (n c I g:Nat),(binOp .eql 23 (O a n c) (O F I g)).run aj w= .ok (aa a.isNone) w:=fun w a n c I g=>sd w _ _ a n c I g Tryz.underlying23;have L:=R h
 cases A with
 | none=>
  have l:n=0:=by
   rcases nM n with l | l
   ·exact l
   obtain⟨b,an,e,_⟩:=h.2 l;cases e
  subst l;obtain rfl:=hA rfl;have J:cr r= []:=gm.1 (by simpa using h.1);have M:=R J;clear h J;go_in;go_wp2;go_ret;exact⟨F,0,rfl,by rw[M.out];exact gl _ _ _ _,aX⟩
 | some K=>
  clear h;go_in
  go_wp2_with (at_builtin;refine qG Tryz.underlying23 tc rfl (by decide) rfl (.tmp 5) (.tmp 6) rfl w.heap.size _ rfl (sk w #[] 0 ce (oK _) rfl) (by simp) K n c (cr r) rfl (L.out.alloc _) (sN _) hn (by omega) ?_;intro a8 Z G P)
  go_wp2;obtain⟨y,g,V,_,_⟩:=dd G;subst V;go_ret;exact⟨y,g,rfl,G,(aV w _).trans (P.mono ce)⟩
theorem xA(A:Option cF)(n c:Nat)(r:List aR)(w:ac)(h:Rd w 6 A n (b5 r))(hA:A=F->c=0)(hn:n*48<=140737488351232):
  Calls aj 45 #[O A n c] w fun e Z=>∃y g,e= .returned (O y n g)/\Z.ownsRow w.heap.size 64 6 (O y n g) n (b5 r)/\Below w.heap.size w Z:=by
 have ao:∀(w:ac) (a:Option cF) (n c I g:Nat),(binOp .eql 26 (O a n c) (O F I g)).run aj w= .ok (aa a.isNone) w:=fun w a n c I g=>sd w _ _ a n c I g Tryz.underlying26;have L:=R h
 cases A with
 | none=>
  have l:n=0:=by
   rcases nM n with l | l
   ·exact l
   obtain⟨b,an,e,_⟩:=h.2 l;cases e
  subst l;obtain rfl:=hA rfl;have J:b5 r= []:=gm.1 (by simpa using h.1);have M:=R J;clear h J;go_in;go_wp2;go_ret;exact⟨F,0,rfl,by rw[M.out];exact gl _ _ _ _,aX⟩
 | some K=>
  clear h;go_in
  go_wp2_with (at_builtin;refine qG Tryz.underlying26 mY rfl (by decide) rfl (.tmp 5) (.tmp 6) rfl w.heap.size _ rfl (sk w #[] 0 ce (oK _) rfl) (by simp) K n c (b5 r) rfl (L.out.alloc _) (m1 _) hn (by omega) ?_;intro a8 Z G P)
  go_wp2;obtain⟨y,g,V,_,_⟩:=dd G;subst V;go_ret;exact⟨y,g,rfl,G,(aV w _).trans (P.mono ce)⟩
end
section
set_option maxRecDepth 100000
open Go.RowKit Go.Maps
theorem xR(W H:Int)(Am Ac:Option cF)(nm cm nc cc:Nat)(mask:List Int)(cs:List bw)(w:ac)(aD:Rd w 1 Am nm (bF mask))(hc:Rd w 5 Ac nc (cr cs))(hnm:nm*8<=140737488351232)(hnc:nc*40<=140737488351232)(hAm:Am=F->cm=0)(hAc:Ac=F->cc=0):
  Calls aj 63 #[aq #[B o W, B o H, O Am nm cm, O Ac nc cc]] w fun e Z=>∃a au g ar,e= .returned (aq #[B o W, B o H, O a nm au, O g nc ar])/\Z.ownsRow w.heap.size 3 1 (O a nm au) nm (bF mask)/\Z.ownsRow w.heap.size 129 5 (O g nc ar) nc (cr cs)/\Below w.heap.size w Z:=by
 have bg:=aW (aQ w (Y #[B o W, B o H, O Am nm cm, O Ac nc cc] 25)) (Y #[B o 0, B o 0, O F 0 0, O F 0 0] 25);have ai:=aQ (w.alloc (Y #[B o W, B o H, O Am nm cm, O Ac nc cc] 25)) (Y #[B o 0, B o 0, O F 0 0, O F 0 0] 25);have aw:=aN (aV w (Y #[B o W, B o H, O Am nm cm, O Ac nc cc] 25)) (Y #[B o 0, B o 0, O F 0 0, O F 0 0] 25);rw[em] at ai;have ep:=fun(W':ac) (T:Below w.heap.size w W')=>sS Am nm cm mask W' (aD.below T) hAm hnm;have ao:=fun(W':ac) (T:Below w.heap.size w W')=>xy Ac nc cc cs W' (hc.below T) hAc hnc;obtain⟨aM,aL⟩:=aY ep ao;clear aD hc hAm hAc hnm hnc ep ao;go_in
 go_wp2_with fail
 have bm:=aB bg 2;have z:=aB bg 3;simp only[cP,cU,cO] at bm z;obtain⟨al,an,ak⟩:=cq bg ai aw;clear bg ai aw;generalize (w.alloc (Y #[B o W, B o H, O Am nm cm, O Ac nc cc] 25)).alloc (Y #[B o 0, B o 0, O F 0 0, O F 0 0] 25)=w1 at bm z al an ak |-;refine ir (fin:= ?z1) [2,5,7,9] [[S,S,Q,S,S,Q,S,Q,S,Q], [Q,Q,Q,S,S,Q,S,Q,S,Q], [S,S,Q,Q,Q,Q,S,Q,S,Q], [Q,Q,Q,Q,Q,Q,Q,Q,S,Q], [Q,Q,Q,Q,Q,Q,Q,Q,Q,Q]] [[1,0], [4,3], [6,2,5,0,1,3,4], [8,5,7,0,1,2,3,4,6]] (fun x=> [ad (D ⟨w.heap.size,2,F⟩), O Am nm cm,(x 0), ad (D ⟨w.heap.size,3,F⟩), O Ac nc cc,(x 1), ad (D ⟨w.heap.size,2,F⟩),(x 2), ad (D ⟨w.heap.size,3,F⟩),(x 3)]) (fun l x c=>match l with | 0=>c.cell? ⟨w.heap.size,2,F⟩=D (O Am nm cm)/\c.cell? ⟨w.heap.size,3,F⟩=D (O Ac nc cc)/\Hid (c.heap[w.heap.size]? =D (Y #[B o W, B o H, O Am nm cm, O Ac nc cc] 25 (0,0)))/\Hid (c.heap[w.heap.size+1]? =D (Y #[B o 0, B o 0, O F 0 0, O F 0 0] 25 (0,0)))/\Hid (Below w.heap.size w c) | 1=>c.cell? ⟨w.heap.size,2,F⟩=D (O Am nm cm)/\c.cell? ⟨w.heap.size,3,F⟩=D (O Ac nc cc)/\Hid (c.heap[w.heap.size]? =D (Y #[B o W, B o H, O Am nm cm, O Ac nc cc] 25 (0,0)))/\Hid (c.heap[w.heap.size+1]? =D (Y #[B o 0, B o 0, O F 0 0, O F 0 0] 25 (0,0)))/\Hid (Below w.heap.size w c)/\∃a b,Hid (x 0= O a nm b)/\Hid (c.ownsRow w.heap.size 3 1 (O a nm b) nm (bF mask)) | 2=>c.cell? ⟨w.heap.size,2,F⟩=D (O Am nm cm)/\c.cell? ⟨w.heap.size,3,F⟩=D (O Ac nc cc)/\Hid (c.heap[w.heap.size]? =D (Y #[B o W, B o H, O Am nm cm, O Ac nc cc] 25 (0,0)))/\Hid (c.heap[w.heap.size+1]? =D (Y #[B o 0, B o 0, O F 0 0, O F 0 0] 25 (0,0)))/\Hid (Below w.heap.size w c)/\∃a b,Hid (x 0= O a nm b)/\Hid (c.ownsRow w.heap.size 3 1 (O a nm b) nm (bF mask))/\∃g i,Hid (x 1= O g nc i)/\Hid (c.ownsRow w.heap.size 129 5 (O g nc i) nc (cr cs)) | 3=>Hid (c.heap[w.heap.size+1]? =D (Y #[B o 0, B o 0, O F 0 0, O F 0 0] 25 (0,0)))/\Hid (Below w.heap.size w c)/\∃a b,Hid (x 0= O a nm b)/\Hid (c.ownsRow w.heap.size 3 1 (O a nm b) nm (bF mask))/\Hid (c.heap[w.heap.size]? =D (Y #[B o W, B o H, O a nm b, O Ac nc cc] 25 (0,0)))/\∃g i,Hid (x 1= O g nc i)/\Hid (c.ownsRow w.heap.size 129 5 (O g nc i) nc (cr cs)) | _=>Hid (c.heap[w.heap.size+1]? =D (Y #[B o 0, B o 0, O F 0 0, O F 0 0] 25 (0,0)))/\Hid (Below w.heap.size w c)/\∃a b,Hid (x 0= O a nm b)/\Hid (c.ownsRow w.heap.size 3 1 (O a nm b) nm (bF mask))/\∃g i,Hid (x 1= O g nc i)/\Hid (c.ownsRow w.heap.size 129 5 (O g nc i) nc (cr cs))/\Hid (c.heap[w.heap.size]? =D (Y #[B o W, B o H, O a nm b, O g nc i] 25 (0,0)))) ?hf (by kernel_rfl) (by kernel_rfl) (fun _=>rfl) (by kernel_rfl) ?hv ⟨bm,z,al,an,R (ak.out.drew)⟩ ?hA ?bi (fun x c hst=> ?N)
 case hf=>intro x;simp only[aT,Act.put,bd,ba,bc];exact rfl
 case hv=>
  intro x l t v h
  cases l with
  | zero=>cases h;rfl
  | succ l=>
   cases l with
   | zero=>cases h;rfl
   | succ l=>
    cases l with
    | zero=>cases h;rfl
    | succ l=>
     cases l with
     | zero=>cases h;rfl
     | succ l=>
      simp at h
 case hA=>
  intro l x c az hst;have az:l<=4:=az;rcases(show l=0∨l=1∨l=2∨l=3∨l=4 by omega) with rfl | rfl | rfl | rfl | rfl
  ·have J:=R hst
   obtain⟨bm,z,r,k,s⟩:=hst;iterate 6 refine⟨?_,fun K y=> ?_⟩
   ·trivial
   all_goals try (go_simp;exact y _ J.out;done)
  ·have J:=R hst
   obtain⟨bm,z,r,k,s,a,b,E,G⟩:=hst;iterate 4 refine⟨?_,fun K y=> ?_⟩
   ·trivial
   all_goals try (go_simp;exact y _ J.out;done)
  ·have J:=R hst
   obtain⟨bm,z,r,k,s,a,b,E,G,g,i,I,L⟩:=hst;iterate 4 refine⟨?_,fun K y=> ?_⟩
   ·trivial
   all_goals try (go_simp;exact y _ J.out;done)
  ·have J:=R hst
   obtain⟨k,s,a,b,E,G,r,g,i,I,L⟩:=hst;iterate 1 refine⟨?_,fun K y=> ?_⟩
   ·trivial
   all_goals try (go_simp;exact y _ J.out;done)
  ·trivial
 case bi=>
  intro l t x c ht hst af P K y
  cases l with
  | zero=>
   cases ht;cases P
   obtain⟨bm,z,r,k,s⟩:=hst;go_simp;refine(aM.out c s.out).mono ?_;rintro aO wc ⟨a,b,N,h1,A⟩;subst N;have hsz:=s.out.size;exact y _ _ ⟨V bm A,V z A,R (aG r.out A (am r.out)),R (aG k.out A (am k.out)),R (ax s.out A),a,b,R rfl,R (dn h1 hsz)⟩
  | succ l=>
   cases l with
   | zero=>
    cases ht;cases P
    obtain⟨bm,z,r,k,s,a,b,E,G⟩:=hst;go_simp;refine(aL.out c s.out).mono ?_;rintro aO wc ⟨g,i,N,ab,A⟩;subst N;have hsz:=s.out.size;exact y _ _ ⟨V bm A,V z A,R (aG r.out A (am r.out)),R (aG k.out A (am k.out)),R (ax s.out A),a,b,E,R (bo G.out A),g,i,R rfl,R (dn ab hsz)⟩
   | succ l=>
    cases l with
    | zero=>
     cases ht;cases P
     obtain⟨bm,z,r,k,s,a,b,E,G,g,i,I,L⟩:=hst;have ag:=E.out;have eu:=br r.out 2;have aP:=am r.out;obtain⟨ah,ct,aC,cz,b9⟩:=dY (bq r.out 2 (O a nm b)) (eV (p:=⟨w.heap.size,2,F⟩) k.out (by simp) (O a nm b)) (s.out.setCell (p:=⟨w.heap.size,2,F⟩) ce (O a nm b)) (e0 G.out r.out (by decide) 2 (O a nm b)) (e0 L.out r.out (by decide) 2 (O a nm b));rw[ag] at y |-;go_simp;exact y U _ ⟨ct,aC,a,b,E,cz,R (by simpa using ah.out),g,i,I,b9⟩
    | succ l=>
     cases l with
     | zero=>
      cases ht;cases P
      obtain⟨k,s,a,b,E,G,r,g,i,I,L⟩:=hst;have ag:=I.out;have eu:=br r.out 3;have aP:=am r.out;have z:=aB r.out 3;simp only[cP,cU,cO] at z;obtain⟨ah,ct,aC,cz,b9⟩:=dY (bq r.out 3 (O g nc i)) (eV (p:=⟨w.heap.size,3,F⟩) k.out (by simp) (O g nc i)) (s.out.setCell (p:=⟨w.heap.size,3,F⟩) ce (O g nc i)) (e0 G.out r.out (by decide) 3 (O g nc i)) (e0 L.out r.out (by decide) 3 (O g nc i));rw[ag] at y |-;go_simp;exact y U _ ⟨ct,aC,a,b,E,cz,g,i,I,b9,R (by simpa using ah.out)⟩
     | succ l=>
      simp at ht
 obtain⟨k,s,a,b,E,G,g,i,I,L,r⟩:=hst;have av:=E.out;have ap:=I.out;have aA:=r.out;obtain⟨aR,aS,aU,aX⟩:=dm aA;obtain⟨aZ,a0,a1,a2⟩:=dm k.out;have a3:=br k.out;have a4:=am k.out;rw[av,ap];clear av ap E I aA bm z
 go_wp2_with fail
 have aJ:=R (e0 (e0 (e0 (e0 G.out k.out (by decide) 0 (B o W)) (bq k.out 0 (B o W)) (by decide) 1 (B o H)) (bq (bq k.out 0 (B o W)) 1 (B o H)) (by decide) 2 (O a nm b)) (bq (bq (bq k.out 0 (B o W)) 1 (B o H)) 2 (O a nm b)) (by decide) 3 (O g nc i));have aK:=R (e0 (e0 (e0 (e0 L.out k.out (by decide) 0 (B o W)) (bq k.out 0 (B o W)) (by decide) 1 (B o H)) (bq (bq k.out 0 (B o W)) 1 (B o H)) (by decide) 2 (O a nm b)) (bq (bq (bq k.out 0 (B o W)) 1 (B o H)) 2 (O a nm b)) (by decide) 3 (O g nc i));have M:=R (bq (bq (bq (bq k.out 0 (B o W)) 1 (B o H)) 2 (O a nm b)) 3 (O g nc i))
 have ay:=R ((((s.out.setCell (p:=⟨w.heap.size+1,0,F⟩) (iW _) (B o W)).setCell (p:=⟨w.heap.size+1,1,F⟩) (iW _) (B o H)).setCell (p:=⟨w.heap.size+1,2,F⟩) (iW _) (O a nm b)).setCell (p:=⟨w.heap.size+1,3,F⟩) (iW _) (O g nc i));generalize ((((c.setCell ⟨w.heap.size+1,0,F⟩ (B o W)).setCell ⟨w.heap.size+1,1,F⟩ (B o H)).setCell ⟨w.heap.size+1,2,F⟩ (O a nm b)).setCell ⟨w.heap.size+1,3,F⟩ (O g nc i))=wF at aJ aK M ay |-;have aE:=aB M.out 0;have aF:=aB M.out 1;have aH:=aB M.out 2;have aI:=aB M.out 3;simp at aE aF aH aI;exact bodyPost_ret (v:= aq #[B o W, B o H, O a nm b, O g nc i]) (by simp[results,Tryz.results63,go_sem,aE,aF,aH,aI]) rfl ⟨a,b,g,i,rfl,aJ.out,aK.out,ay.out⟩
end
section
open Go.RowKit Go.Maps
def gh(L:List ah)(l:List Nat):List ah:=l.map fun i=>L.getD i (0,0,0)
theorem C8(L:List ah)(l:List Nat):(gh L l).length=l.length:=by simp[gh]
theorem C9{L:List ah}{l:List Nat}{h j:Nat}{t:ah}(al:l[h]? =D j)(ht:L[j]? =D t):gh L (l.take (h+1))=gh L (l.take h)++ [t]:=by
 unfold gh;rw[List.take_add_one,al,List.map_append];simp[cf,ht]
def fb(L:List ah)(G:ah->List Nat)(k:List ah):List aP:=k.map fun x=>(x,gh L (G x))
theorem CS{L:List ah}{G:ah->List Nat}{k:List ah}{i:Nat}{x:ah}(ap:k[i]? =D x):fb L G (k.take (i+1))=fb L G (k.take i)++ [(x,gh L (G x))]:=by
 unfold fb;rw[List.take_add_one,ap,List.map_append];rfl
section
variable {w Z wr:ac} {g aF aJ:Nat}
theorem jM{N aL n:Nat}{e:dK}{v:ae}{k:List ae}(h:w.ownsRow N e aL v n k)(an:da w Z aF aJ)(h1:v.ownBlock≠D aF)(ab:v.ownBlock≠D aJ):Z.ownsRow N e aL v n k:=by
 rcases h.2 with ⟨J,hn⟩ | ⟨b,V,af,J,r,ak,cN,ct,ee,ar⟩
 ·exact⟨h.1, .inl ⟨J,hn⟩⟩
 subst J;exact⟨h.1, .inr ⟨b,V,af,rfl,r,an.il ak (fun e=>h1 (by rw[e];rfl)) (fun e=>ab (by rw[e];rfl)),cN,ct,ee,ar⟩⟩
structure eU(w:ac)(g:Nat)(W H:Int)(M C P z T:ae)(sts:List aP)(wr:ac):Prop where
 cb:da w wr g g
 bT:wr.heap[g]? =D (Y #[B o W, B o H,M,C,P,z] 29 (0,0))
 dS:dv wr w.heap.size T sts
 lt:g < w.heap.size
variable {W H:Int} {M C P z T:ae} {sts:List aP}
theorem eU.below(h:eU w g W H M C P z T sts wr)(r:Below wr.heap.size wr Z):eU w g W H M C P z T sts Z:=
 ⟨h.cb.below r,aG h.bT r (am h.bT),h.dS.below r,h.lt⟩
theorem eU.cell(h:eU w g W H M C P z T sts wr):wr.cell? ⟨g,5,F⟩=D z:=by rw[aB h.bT 5];rfl
theorem eU.push(h:eU w g W H M C P z T sts wr){s:aP}{u:ae}(ao:wr.ownsRow w.heap.size 53 3 u s.2.length (bn s.2)):∃k,wr.ownsRow w.heap.size 56 4 T sts.length k/\∀(I:ae) (Z:ac),Z.ownsRow w.heap.size 56 4 I (sts.length+1) (k++ [B o s.1.1, B o s.1.2.1, B o s.1.2.2,u])->fm wr Z T I->eU w g W H M C P z I (sts++ [s]) Z:=by
 obtain⟨k,h1,ab⟩:=h.dS.row;refine⟨k,h1,fun I Z K E=>⟨h.cb.grown E.grown (fun b r=> .inr (.inr (h1.lt b r).1)),(E.grown.block g (am h.bT) (fun e=>dy h1 h.bT (by decide) e.symm)).trans h.bT,ab s E ao K,h.lt⟩⟩
theorem eU.store(h:eU w g W H M C P z T sts wr):eU w g W H M C P T T sts (wr.setCell ⟨g,5,F⟩ T):=
 ⟨h.cb.set 5 T,by simpa using bq h.bT 5 T,h.dS.set h.bT (by decide) (by decide) 5 T,h.lt⟩
structure hq(c a:ac)(b:Nat)(x:ah)(y:ae)(l:List ah)(wr:ac):Prop where
 bel:Below c.heap.size c wr
 bT:wr.heap[b]? =D (Y #[B o x.1, B o x.2.1, B o x.2.2,y] 56 (0,0))
 row:wr.ownsRow a.heap.size 53 3 y l.length (bn l)
 ge:c.heap.size<=b/\c.heap.size<=a.heap.size/\a.heap.size<=wr.heap.size
variable {c a:ac} {b:Nat} {x:ah} {y A:ae} {l:List ah}
theorem hq.below(h:hq c a b x y l wr)(r:Below wr.heap.size wr Z):hq c a b x y l Z:=
 ⟨ax h.bel r,aG h.bT r (am h.bT),bo h.row r,h.ge.1,h.ge.2.1,ec h.ge.2.2 r.size⟩
theorem hq.grow(h:hq c a b x y l wr){t:ah}(K:Z.ownsRow a.heap.size 53 3 A (l.length+1) (bn l++ [B o t.1, B o t.2.1, B o t.2.2]))(R:Below a.heap.size wr Z)(E:fm wr Z y A):
  Below c.heap.size c Z/\Z.heap[b]? =D (Y #[B o x.1, B o x.2.1, B o x.2.2,y] 56 (0,0))/\Z.ownsRow a.heap.size 53 3 A (l++ [t]).length (bn (l++ [t]))/\a.heap.size<=Z.heap.size:=
 ⟨h.bel.trans (R.mono h.ge.2.1),(E.grown.block b (am h.bT) (fun e=>dy h.row h.bT (by decide) e.symm)).trans h.bT,by rw[List.length_append,jl,show bn [t]= [B o t.1, B o t.2.1, B o t.2.2] from rfl];exact K,ec h.ge.2.2 R.size⟩
theorem hq.set(h1:Below c.heap.size c wr)(ab:wr.heap[b]? =D (Y #[B o x.1, B o x.2.1, B o x.2.2,y] 56 (0,0)))(ag:wr.ownsRow a.heap.size 53 3 A l.length (bn l))(az:c.heap.size<=b/\c.heap.size<=a.heap.size)(ai:a.heap.size<=wr.heap.size):hq c a b x A l (wr.setCell ⟨b,3,F⟩ A):=
 ⟨h1.setCell (p:=⟨b,3,F⟩) az.1 _,by simpa using bq ab 3 A,e0 ag ab (by decide) 3 A,az.1,az.2,by simpa using ai⟩
theorem hq.cell(h:hq c a b x y l wr):wr.cell? ⟨b,3,F⟩=D y:=by rw[aB h.bT 3];rfl
end
end
section
open Go.RowKit
section
variable {P:Program} {ops:Array Oper}
def tx(ops:Array Oper)(T:List Nat)(f:Nat)(G I:List (List Bool))(cl:List (List Nat))(E:List Nat):Bool:=
 (T.all fun t=>Nat.blt t ops.size) && (c4 T.length).all (fun q=>f4 q 0 || eB .any ops (T.getD q 0) (T.getD (q-1) 0)) && (c4 T.length).all (fun q=>mK ops [T.getD q 0] (cl.getD q [])) &&
 (c4 ops.size).all (fun i=>T.contains i || f4 i f || (c4 (T.length+1)).all fun j=>
  ((G.getD j []).getD i Q || ((!f4 j 0 && (cl.getD (j-1) []).contains i) || ((T.drop j).any (fun t=>eB .any ops i t) || eB .any ops i f))) &&
  ((I.getD j []).getD i Q || ((!f4 j 0 && (cl.getD (j-1) []).contains i) || ((T.drop j).any (fun t=>eB .any ops i t) || E.contains i)))) && decide T.Nodup && Nat.blt f ops.size && mK ops [f] E && !T.contains f
theorem rO{id:Nat}{a:Act}{w:ac}{an:Exit->Act->ac->Prop}(T:List Nat)(f:Nat)(G I:List (List Bool))(cl:List (List Nat))(E:List Nat)(A:(Nat->ae)->List ae)(l:Nat->Bool->(Nat->ae)->ac->Prop){fin:(Nat->ae)->Act}(hf:∀x,aT ops.toList (A x) a=fin x)(aN:P.follows .mixedOrders=S)(aF:g4 ops=S)(aL:∀x,(A x).length=ops.size)
  (hc:tx ops T f G I cl E=S) (aX:∀x j t v,T[j]? =D t->A (gj x j v)=(A x).set t v) (aW:∀x v,A (gj x T.length v)=(A x).set f v) (h0:l 0 Q (fun _=>U) w.drew)
  (hA:∀j b x W,j<=T.length->l j b x W->gv P ops (fin x) (l j b x) W ops.toList ((bif b then I else G).getD j []))
  (bi:∀j b t x W,T[j]? =D t->(eB .any ops t f=S->b=S)->l j b x W->∀af,ops[t]? =D af->∀K:Act->ac->Prop,(∀v W',l (j+1) b (gj x j v) W'->K ((fin x).put af.dst v) W')->
    if eP af (yielded ops (fin x).tmps)=S then af.wp P (fin x) W K je else K ((fin x).put af.dst U) W)
  (hF:∀j x W,j<=T.length->l j Q x W->∀af,ops[f]? =D af->∀K:Act->ac->Prop,(∀v W',l j S (gj x T.length v) W'->K ((fin x).put af.dst v) W')->
    if eP af (yielded ops (fin x).tmps)=S then af.wp P (fin x) W K je else K ((fin x).put af.dst U) W)
  (aI:∀x W,l T.length S x W->an .normal (fin x) W):(Code.region id ops S).wp P an a w:=by
 unfold tx at hc;obtain⟨hc,i2⟩:=(cu _ _).mp hc;obtain⟨hc,jC⟩:=(cu _ _).mp hc;obtain⟨hc,dk⟩:=(cu _ _).mp hc;obtain⟨hc,b8⟩:=(cu _ _).mp hc;obtain⟨hc,bC⟩:=(cu _ _).mp hc;obtain⟨hc,bV⟩:=(cu _ _).mp hc;obtain⟨c1,c2⟩:=(cu _ _).mp hc;have hnd:T.Nodup:=of_decide_eq_true b8;have aK:f < ops.size:=Nat.le_of_ble_eq_true dk;have aJ:∀q:Nat,T[q]? ≠D f:=fun q g=>by
  have h1:T.contains f=S:=j3.2 (cH g);rw[h1] at i2;cases i2
 have aM:∀q t,T[q]? =D t->t < ops.size:=fun q t h=>Nat.le_of_ble_eq_true (dM.1 c1 t (cH h));have aY:∀q t s,T[q+1]? =D t->T[q]? =D s->eB .any ops t s=S:=fun q t s h1 ab=>by
  have ag:=(bM.1 h1).1;have h:=dM.1 c2 (q+1) (fl.2 ag);simp only[cf,h1,Nat.add_sub_cancel,ab,Option.getD_some] at h;rcases gJ _ _ |>.mp h with h | h
  ·simp at h
  ·exact h
 have ax:∀i,(Array.replicate ops.size Q).getD i Q=Q:=fun i=>by
  simp only[Array.getD_eq_getD_getElem?,Array.getElem?_replicate]
  split <;> rfl
 refine pO A (fun x L W=>∃j b,j<=T.length/\(∀q t,T[q]? =D t->(L.getD t Q=S↔q < j))/\L.getD f Q=b/\l j b x W) hf aN aF aL (fun _=>U) ⟨0,Q,oK _,fun q t _=>by rw[ax];simp,ax f,h0⟩ ?_ ?_
 ·rintro x L W hsz aw ⟨j,b,J,r,y,hst⟩ i af Z aS V K aE av
  have al:=(Array.getElem?_eq_some_iff.1 Z).1;have ay:(L.setIfInBounds i S).getD i Q=S:=by
   have:i < L.size:=by omega
   simp[this]
  have N:L.getD i Q=Q:=na aS;by_cases R:∃q:Nat,T[q]? =D i
  ·obtain⟨q,g⟩:=R
   have h1:¬q < j:=fun h=>by rw[(r q i g).2 h] at N;cases N
   have ab:q=j:=by
    cases q with
    | zero=>omega
    | succ q=>
     have aU:=(bM.1 g).1;obtain⟨s,z⟩:∃s,T[q]? =D s:=⟨_,bb (by omega)⟩;have:=(r q s z).1 (V s (aY q i s g z));omega
   subst ab;have aU:=(bM.1 g).1;refine bi q b i x W g (fun am=>by rw[<-y];exact V f am) hst af Z K fun v W' h=>av v (gj x q v) W' (aX x q i v g) ⟨q+1,b,by omega,fun cM aA ah=> ?_, ?_,h⟩
   ·by_cases e:i=aA
    ·subst e
     have:cM=q:=by
      have ao:=(bM.1 ah);have a2:=(bM.1 g);exact(List.getElem_inj hnd).1 (ao.2.trans a2.2.symm)
     subst this;rw[ay];simp
    rw[getD_set_ne Q e,r cM aA ah];have:cM≠q:=fun ak=>by rw[ak,g] at ah;exact e (cn ah)
    omega
   rw[getD_set_ne Q (fun e=>aJ q (by rw[<-e];exact g))];exact y
  by_cases ai:i=f
  ·subst ai
   have aG:b=Q:=by rw[<-y];exact N
   subst aG;refine hF j x W J hst af Z K fun v W' h=>av v (gj x T.length v) W' (aW x v) ⟨j,S,J,fun q t g=> ?_,ay,h⟩;have:i≠t:=fun e=>R ⟨q,by rw[e];exact g⟩;rw[getD_set_ne Q this];exact r q t g
  have aR:T.contains i=Q:=by
   rw[<-Bool.not_eq_true,j3];intro aO;obtain⟨q,g⟩:=List.getElem?_of_mem aO;exact R ⟨q,g⟩
  have aP:f4 i f=Q:=by
   rw[<-Bool.not_eq_true];exact fun h=>ai (Nat.eq_of_beq_eq_true h)
  have az:=dM.1 bC i (fl.2 al);rw[aR,aP,Bool.false_or,Bool.false_or] at az;have az:=dM.1 az j (fl.2 (by omega));obtain⟨aB,aC⟩:=(cu _ _).mp az;have key:∀W',l j b x W'->K (fin x) W':=fun W' h=>aE W' ⟨j,b,J,fun q t g=>by
   have:i≠t:=fun e=>R ⟨q,by rw[e];exact g⟩;rw[getD_set_ne Q this];exact r q t g,by rw[getD_set_ne Q ai];exact y,h⟩
  have au:∀dq:List (List Bool),(dq.getD j []).getD i Q=S->(dq.getD j [])[i]? =D S:=fun dq h=>by
   rw[cf] at h
   cases g:(dq.getD j [])[i]? with
   | none=>rw[g] at h;cases h
   | some b=>rw[g] at h;simp at h;rw[h]
  have ap:(!f4 j 0 && (cl.getD (j-1) []).contains i)=S->False:=fun c=>by
   obtain⟨aD,c⟩:=(cu _ _).mp c
   cases j with
   | zero=>cases aD
   | succ j=>
    rw[Nat.add_sub_cancel,j3] at c;obtain⟨s,z⟩:∃s,T[j]? =D s:=⟨_,bb (by omega)⟩;have aV:T.getD j 0=s:=by rw[cf,z];rfl
    have:=mL aw (cl.getD j []) [T.getD j 0] (dM.1 bV j (fl.2 (by omega))) (by intro k M;rw[List.mem_singleton] at M;subst M;rw[aV];exact(r j s z).2 (by omega)) i c;rw[N] at this;cases this
  have ar:(T.drop j).any (fun t=>eB .any ops i t)=S->False:=fun c=>by
   obtain⟨t,ht,am⟩:=List.any_eq_true.1 c;obtain⟨q,g⟩:=List.getElem?_of_mem ht;rw[List.getElem?_drop] at g;have:=(r (j+q) t g).1 (V t am);omega
  refine(hA j b x W J hst).at_ (by simpa using Z) ?_ K key
  cases b with
  | false=>
   refine au G ?_;rcases gJ _ _ |>.mp aB with c | c
   ·exact c
   exfalso;rcases gJ _ _ |>.mp c with c | c
   ·exact ap c
   rcases gJ _ _ |>.mp c with c | c
   ·exact ar c
   have:=V f c;rw[y] at this;cases this
  | true=>
   refine au I ?_;rcases gJ _ _ |>.mp aC with c | c
   ·exact c
   exfalso;rcases gJ _ _ |>.mp c with c | c
   ·exact ap c
   rcases gJ _ _ |>.mp c with c | c
   ·exact ar c
   rw[j3] at c;have:=mL aw E [f] jC (by intro k M;rw[List.mem_singleton] at M;subst M;exact y) i c;rw[N] at this;cases this
 rintro x L W ⟨j,b,J,r,y,hst⟩ hall;have:j=T.length:=by
  by_cases h:j < T.length
  ·exfalso
   obtain⟨s,z⟩:∃s,T[j]? =D s:=⟨_,bb h⟩;have:=(r j s z).1 (hall s (aM j s z));omega
  ·omega
 subst this;have aH:b=S:=by rw[<-y];exact hall f aK
 subst aH;exact aI x W hst
end
end
section
set_option maxRecDepth 100000
open Go.RowKit Go.Maps
set_option pp.deepTerms true in
set_option pp.maxSteps 10000000 in
theorem CI(ar aA bz bg W H aJ ew e1 n:Nat)(Am Ac Ap:Option cF)(nm cm nc cc np cp dx gt:Nat)(mask:List Int)(cs:List bw)(ms:List aR)(fH fI:ae)(L:List ah)(dc mk:Nat)(aU:aO->Option Int)(f:ah->Option ae)(G:ah->List Nat)(w:ac)
  (bV:eE w aA bz bg W H (O Am nm cm) (O Ac nc cc) (O (D ⟨gt,0,F⟩) L.length dx) L dc mk aU) (a5:w.ownsRow ew 53 3 (O (D ⟨gt,0,F⟩) L.length dx) L.length (bn L)) (aZ:dP w ar aA (O Ap np cp) fH fI aJ) (dV:eT w e1 aJ n f G)
  (ef:Rd w 1 Am nm (bF mask)) (hc:Rd w 5 Ac nc (cr cs)) (eh:Rd w 6 Ap np (b5 ms)) (hnm:nm*8<=140737488351232) (hnc:nc*40<=140737488351232) (hnp:np*48<=140737488351232) (hAm:Am=F->cm=0) (hAc:Ac=F->cc=0) (hAp:Ap=F->cp=0)
  (f2:L.length<=1000) (dR:∀x,∀i ∈ G x,i < L.length) (dT:∀x,(G x).length<=1000) (an:∀aE:List ah,aE.Nodup->(∀x ∈ aE,(f x).isSome=S)->aE.length<=1000):
  Calls aj 25 #[ad (D ⟨ar,0,F⟩)] w fun e Z=>∃z dJ y dI P dL c9 cS aE,e= .returned (aq #[B o W, B o H, O z nm dJ, O y nc dI, O P np dL, O c9 aE.length cS])/\Z.ownsRow w.heap.size 3 1 (O z nm dJ) nm (bF mask)/\Z.ownsRow w.heap.size 129 5 (O y nc dI) nc (cr cs)/\Z.ownsRow w.heap.size 64 6 (O P np dL) np (b5 ms)/\dv Z w.heap.size (O c9 aE.length cS) (fb L G (gF aE))/\aE.Nodup/\(∀x,x ∈ aE↔(f x).isSome=S)/\Below w.heap.size w Z:=by
 have bB:=aV w (Y #[B o 0, B o 0, O F 0 0, O F 0 0, O F 0 0, O F 0 0] 29);have a9:=aQ w (Y #[B o 0, B o 0, O F 0 0, O F 0 0, O F 0 0, O F 0 0] 29);have dG:=fun(W':ac) (bR:Below w.heap.size w W')=>xR W H Am Ac nm cm nc cc mask cs W' (ef.below bR) (hc.below bR) hnm hnc hAm hAc;have dE:=fun(W':ac) (bR:Below w.heap.size w W')=>xA Ap np cp ms W' (eh.below bR) hAp hnp;obtain⟨dh,de,eL,eJ,cI,ck,eA,eC,eG⟩:=jG dG dE bV a5 aZ dV dR dT an;have a0:=V aZ.a1 bB;have ao:=V aZ.c1 bB;have b0:(w.alloc (Y #[B o 0, B o 0, O F 0 0, O F 0 0, O F 0 0, O F 0 0] 29)).cell? ⟨aA,0,F⟩=D (B o W):=V ((aB bV.bT 0).trans rfl) bB;have b1:(w.alloc (Y #[B o 0, B o 0, O F 0 0, O F 0 0, O F 0 0, O F 0 0] 29)).cell? ⟨aA,1,F⟩=D (B o H):=V ((aB bV.bT 1).trans rfl) bB
 have aC:(w.alloc (Y #[B o 0, B o 0, O F 0 0, O F 0 0, O F 0 0, O F 0 0] 29)).cell? ⟨aA,2,F⟩=D (O Am nm cm):=V ((aB bV.bT 2).trans rfl) bB;have aM:(w.alloc (Y #[B o 0, B o 0, O F 0 0, O F 0 0, O F 0 0, O F 0 0] 29)).cell? ⟨aA,3,F⟩=D (O Ac nc cc):=V ((aB bV.bT 3).trans rfl) bB;clear dG dE bV a5 aZ dV dR dT an ef hc eh hAm hAc hAp hnm hnc hnp;go_in
 go_wp2_with fail
 obtain⟨cv,a3⟩:=aY a9 bB;clear a9 bB;generalize w.alloc (Y #[B o 0, B o 0, O F 0 0, O F 0 0, O F 0 0, O F 0 0] 29)=w1 at a0 ao b0 b1 aC aM cv a3 |-;refine rO (fin:= ?bN) [7,12,13,15] 14 [[S,S,S,S,S,S,S,Q,S,S,S,S,Q,Q,Q,Q], [Q,Q,Q,Q,Q,Q,Q,Q,S,S,S,S,Q,Q,Q,Q], [S,S,S,S,S,S,S,Q,Q,Q,Q,Q,Q,Q,Q,Q], [Q,Q,Q,Q,Q,Q,Q,Q,Q,Q,Q,Q,Q,Q,Q,Q], [Q,Q,Q,Q,Q,Q,Q,Q,Q,Q,Q,Q,Q,Q,Q,Q]] [[S,S,S,S,S,S,S,Q,S,S,S,S,Q,Q,Q,Q], [Q,Q,Q,Q,Q,Q,Q,Q,S,S,S,S,Q,Q,Q,Q], [S,S,S,S,S,S,S,Q,Q,Q,Q,Q,Q,Q,Q,Q], [Q,Q,Q,Q,Q,Q,Q,Q,Q,Q,Q,Q,Q,Q,Q,Q], [Q,Q,Q,Q,Q,Q,Q,Q,Q,Q,Q,Q,Q,Q,Q,Q]] [[6,5,4,3,2,1,0], [11,10,9,8], [7,12,6,11,5,10,4,9,3,8,2,1,0], [14,13,7,12,6,11,5,10,4,9,3,8,2,1,0]] [] (fun x=> [ad (D ⟨ar,0,F⟩), ad (D ⟨ar,0,F⟩), ad (D ⟨ar,0,F⟩), ad (D ⟨aA,0,F⟩), ad (D ⟨aA,0,F⟩), ad (D ⟨aA,0,F⟩), aq #[B o W, B o H, O Am nm cm, O Ac nc cc],(x 0), ad (D ⟨ar,0,F⟩), ad (D ⟨ar,0,F⟩), ad (D ⟨ar,1,F⟩), O Ap np cp,(x 1),(x 2),(x 4),(x 3)]) (fun N e0 x r=>match N,e0 with | 0,Q=>r.cell? ⟨ar,0,F⟩=D (ad (D ⟨aA,0,F⟩))/\r.cell? ⟨ar,1,F⟩=D (O Ap np cp)/\r.cell? ⟨aA,0,F⟩=D (B o W)/\r.cell? ⟨aA,1,F⟩=D (B o H)/\r.cell? ⟨aA,2,F⟩=D (O Am nm cm)/\r.cell? ⟨aA,3,F⟩=D (O Ac nc cc)/\Below w1.heap.size w1 r | 0,S=>r.cell? ⟨ar,0,F⟩=D (ad (D ⟨aA,0,F⟩))/\r.cell? ⟨ar,1,F⟩=D (O Ap np cp)/\r.cell? ⟨aA,0,F⟩=D (B o W)/\r.cell? ⟨aA,1,F⟩=D (B o H)/\r.cell? ⟨aA,2,F⟩=D (O Am nm cm)/\r.cell? ⟨aA,3,F⟩=D (O Ac nc cc)/\Below w1.heap.size w1 r/\(∃g,Hid (x 4= ad (D ⟨g,0,F⟩))/\r.heap[g]? =D (Y #[B o 0, B o 0, O F 0 0, O F 0 0, O F 0 0, O F 0 0] 29 (0,0))/\Hid (w1.heap.size<=g)) | 1,Q=>r.cell? ⟨ar,0,F⟩=D (ad (D ⟨aA,0,F⟩))/\r.cell? ⟨ar,1,F⟩=D (O Ap np cp)/\r.cell? ⟨aA,0,F⟩=D (B o W)/\r.cell? ⟨aA,1,F⟩=D (B o H)/\r.cell? ⟨aA,2,F⟩=D (O Am nm cm)/\r.cell? ⟨aA,3,F⟩=D (O Ac nc cc)/\Below w1.heap.size w1 r/\∃z I y E,Hid (x 0= aq #[B o W, B o H, O z nm I, O y nc E])/\Hid (r.ownsRow w.heap.size 3 1 (O z nm I) nm (bF mask)/\r.ownsRow w.heap.size 129 5 (O y nc E) nc (cr cs)) | 1,S=>r.cell? ⟨ar,0,F⟩=D (ad (D ⟨aA,0,F⟩))/\r.cell? ⟨ar,1,F⟩=D (O Ap np cp)/\r.cell? ⟨aA,0,F⟩=D (B o W)/\r.cell? ⟨aA,1,F⟩=D (B o H)/\r.cell? ⟨aA,2,F⟩=D (O Am nm cm)/\r.cell? ⟨aA,3,F⟩=D (O Ac nc cc)/\Below w1.heap.size w1 r/\(∃g,Hid (x 4= ad (D ⟨g,0,F⟩))/\r.heap[g]? =D (Y #[B o 0, B o 0, O F 0 0, O F 0 0, O F 0 0, O F 0 0] 29 (0,0))/\Hid (w1.heap.size<=g))/\∃z I y E,Hid (x 0= aq #[B o W, B o H, O z nm I, O y nc E])/\Hid (r.ownsRow w.heap.size 3 1 (O z nm I) nm (bF mask)/\r.ownsRow w.heap.size 129 5 (O y nc E) nc (cr cs)) | 2,Q=>r.cell? ⟨ar,0,F⟩=D (ad (D ⟨aA,0,F⟩))/\r.cell? ⟨ar,1,F⟩=D (O Ap np cp)/\r.cell? ⟨aA,0,F⟩=D (B o W)/\r.cell? ⟨aA,1,F⟩=D (B o H)/\r.cell? ⟨aA,2,F⟩=D (O Am nm cm)/\r.cell? ⟨aA,3,F⟩=D (O Ac nc cc)/\Below w1.heap.size w1 r/\∃z I y E,Hid (x 0= aq #[B o W, B o H, O z nm I, O y nc E])/\Hid (r.ownsRow w.heap.size 3 1 (O z nm I) nm (bF mask)/\r.ownsRow w.heap.size 129 5 (O y nc E) nc (cr cs))/\∃P T,Hid (x 1= O P np T)/\Hid (r.ownsRow w.heap.size 64 6 (O P np T) np (b5 ms)) | 2,S=>r.cell? ⟨ar,0,F⟩=D (ad (D ⟨aA,0,F⟩))/\r.cell? ⟨ar,1,F⟩=D (O Ap np cp)/\r.cell? ⟨aA,0,F⟩=D (B o W)/\r.cell? ⟨aA,1,F⟩=D (B o H)/\r.cell? ⟨aA,2,F⟩=D (O Am nm cm)/\r.cell? ⟨aA,3,F⟩=D (O Ac nc cc)/\Below w1.heap.size w1 r/\(∃g,Hid (x 4= ad (D ⟨g,0,F⟩))/\r.heap[g]? =D (Y #[B o 0, B o 0, O F 0 0, O F 0 0, O F 0 0, O F 0 0] 29 (0,0))/\Hid (w1.heap.size<=g))/\∃z I y E,Hid (x 0= aq #[B o W, B o H, O z nm I, O y nc E])/\Hid (r.ownsRow w.heap.size 3 1 (O z nm I) nm (bF mask)/\r.ownsRow w.heap.size 129 5 (O y nc E) nc (cr cs))/\∃P T,Hid (x 1= O P np T)/\Hid (r.ownsRow w.heap.size 64 6 (O P np T) np (b5 ms)) | 3,Q=>r.cell? ⟨ar,0,F⟩=D (ad (D ⟨aA,0,F⟩))/\r.cell? ⟨ar,1,F⟩=D (O Ap np cp)/\r.cell? ⟨aA,0,F⟩=D (B o W)/\r.cell? ⟨aA,1,F⟩=D (B o H)/\r.cell? ⟨aA,2,F⟩=D (O Am nm cm)/\r.cell? ⟨aA,3,F⟩=D (O Ac nc cc)/\Below w1.heap.size w1 r/\∃z I y E,Hid (x 0= aq #[B o W, B o H, O z nm I, O y nc E])/\Hid (r.ownsRow w.heap.size 3 1 (O z nm I) nm (bF mask)/\r.ownsRow w.heap.size 129 5 (O y nc E) nc (cr cs))/\∃P T,Hid (x 1= O P np T)/\Hid (r.ownsRow w.heap.size 64 6 (O P np T) np (b5 ms))/\Hid (x 2= aq #[B o W, B o H, O z nm I, O y nc E, O P np T, O F 0 0]) | 3,S=>r.cell? ⟨ar,0,F⟩=D (ad (D ⟨aA,0,F⟩))/\r.cell? ⟨ar,1,F⟩=D (O Ap np cp)/\r.cell? ⟨aA,0,F⟩=D (B o W)/\r.cell? ⟨aA,1,F⟩=D (B o H)/\r.cell? ⟨aA,2,F⟩=D (O Am nm cm)/\r.cell? ⟨aA,3,F⟩=D (O Ac nc cc)/\Below w1.heap.size w1 r/\(∃g,Hid (x 4= ad (D ⟨g,0,F⟩))/\r.heap[g]? =D (Y #[B o 0, B o 0, O F 0 0, O F 0 0, O F 0 0, O F 0 0] 29 (0,0))/\Hid (w1.heap.size<=g))/\∃z I y E,Hid (x 0= aq #[B o W, B o H, O z nm I, O y nc E])/\Hid (r.ownsRow w.heap.size 3 1 (O z nm I) nm (bF mask)/\r.ownsRow w.heap.size 129 5 (O y nc E) nc (cr cs))/\∃P T,Hid (x 1= O P np T)/\Hid (r.ownsRow w.heap.size 64 6 (O P np T) np (b5 ms))/\Hid (x 2= aq #[B o W, B o H, O z nm I, O y nc E, O P np T, O F 0 0]) | _,Q=>False | _,S=>Below w1.heap.size w1 r/\∃g z I y E P T,Hid (x 4= ad (D ⟨g,0,F⟩))/\r.heap[g]? =D (Y #[B o W, B o H, O z nm I, O y nc E, O P np T, O F 0 0] 29 (0,0))/\Hid (w1.heap.size<=g)/\Hid (x 0= aq #[B o W, B o H, O z nm I, O y nc E])/\Hid (x 1= O P np T)/\Hid (x 2= aq #[B o W, B o H, O z nm I, O y nc E, O P np T, O F 0 0])/\Hid (r.ownsRow w.heap.size 3 1 (O z nm I) nm (bF mask)/\r.ownsRow w.heap.size 129 5 (O y nc E) nc (cr cs)/\r.ownsRow w.heap.size 64 6 (O P np T) np (b5 ms))) ?hf (by kernel_rfl) (by kernel_rfl) (fun _=>rfl) (by kernel_rfl) ?ca ?hvf ⟨a0,ao,b0,b1,aC,aM,aX.drew⟩ ?hA ?bi ?hF (fun x r hst=> ?_)
 case hf=>intro x;simp only[aT,Act.put,bd,ba,bc];exact rfl
 case ca=>
  intro x N t v h
  cases N with
  | zero=>cases h;rfl
  | succ N=>
   cases N with
   | zero=>cases h;rfl
   | succ N=>
    cases N with
    | zero=>cases h;rfl
    | succ N=>
     cases N with
     | zero=>cases h;rfl
     | succ N=>
      simp at h
 case hvf=>intro x v;rfl
 case hA=>
  intro N b x r bf hst;have bf:N<=4:=bf;rcases(show N=0∨N=1∨N=2∨N=3∨N=4 by omega) with rfl | rfl | rfl | rfl | rfl <;> cases b
  ·have a2:=R hst
   obtain⟨a0,ao,b0,b1,aC,aM,J⟩:=hst;iterate 11 refine⟨?_,fun K an=> ?_⟩
   ·trivial
   all_goals try (go_simp;exact an _ a2.out;done)
  ·have a2:=R hst
   obtain⟨a0,ao,b0,b1,aC,aM,J,⟨g,a7,aN,aS⟩⟩:=hst;iterate 11 refine⟨?_,fun K an=> ?_⟩
   ·trivial
   all_goals try (go_simp;exact an _ a2.out;done)
  ·have a2:=R hst
   obtain⟨a0,ao,b0,b1,aC,aM,J,z,I,y,E,aF,aK⟩:=hst;iterate 4 refine⟨?_,fun K an=> ?_⟩
   ·trivial
   all_goals try (go_simp;exact an _ a2.out;done)
  ·have a2:=R hst
   obtain⟨a0,ao,b0,b1,aC,aM,J,⟨g,a7,aN,aS⟩,z,I,y,E,aF,aK⟩:=hst;iterate 4 refine⟨?_,fun K an=> ?_⟩
   ·trivial
   all_goals try (go_simp;exact an _ a2.out;done)
  ·have a2:=R hst
   obtain⟨a0,ao,b0,b1,aC,aM,J,z,I,y,E,aF,aK,P,T,a6,bh⟩:=hst;iterate 7 refine⟨?_,fun K an=> ?_⟩
   ·trivial
   all_goals try (go_simp;exact an _ a2.out;done)
  ·have a2:=R hst
   obtain⟨a0,ao,b0,b1,aC,aM,J,⟨g,a7,aN,aS⟩,z,I,y,E,aF,aK,P,T,a6,bh⟩:=hst;iterate 7 refine⟨?_,fun K an=> ?_⟩
   ·trivial
   all_goals try (go_simp;exact an _ a2.out;done)
  ·trivial
  ·trivial
  ·exact hst.elim
  ·trivial
 case bi=>
  intro N b t x r ht fs hst af a5 K an
  cases N with
  | zero=>
   cases ht;cases a5
   cases b
   ·obtain⟨a0,ao,b0,b1,aC,aM,J⟩:=hst
    go_simp;refine(dh.out r (a3.out.trans (J.mono a3.out.size))).mono ?_;rintro cJ wc ⟨z,I,y,E,bD,h1,ab,au⟩;subst bD;have hsz:=a3.out.size;have cV:=J.size;exact an _ _ ⟨V a0 au,V ao au,V b0 au,V b1 au,V aC au,V aM au,ax J au,z,I,y,E,R rfl,R ⟨dn h1 (by omega),dn ab (by omega)⟩⟩
   obtain⟨a0,ao,b0,b1,aC,aM,J,⟨g,a7,aN,aS⟩⟩:=hst;go_simp;refine(dh.out r (a3.out.trans (J.mono a3.out.size))).mono ?_;rintro cJ wc ⟨z,I,y,E,bD,h1,ab,au⟩;subst bD;have hsz:=a3.out.size;have cV:=J.size;exact an _ _ ⟨V a0 au,V ao au,V b0 au,V b1 au,V aC au,V aM au,ax J au,⟨g,a7,aG aN au (am aN),aS⟩,z,I,y,E,R rfl,R ⟨dn h1 (by omega),dn ab (by omega)⟩⟩
  | succ N=>
   cases N with
   | zero=>
    cases ht;cases a5
    cases b
    ·obtain⟨a0,ao,b0,b1,aC,aM,J,z,I,y,E,aF,aK⟩:=hst
     go_simp;refine(de.out r (a3.out.trans (J.mono a3.out.size))).mono ?_;rintro cJ wc ⟨P,T,bD,h1,au⟩;subst bD;have hsz:=a3.out.size;have cV:=J.size;exact an _ _ ⟨V a0 au,V ao au,V b0 au,V b1 au,V aC au,V aM au,ax J au,z,I,y,E,aF,R ⟨bo aK.out.1 au,bo aK.out.2 au⟩,P,T,R rfl,R (dn h1 (by omega))⟩
    obtain⟨a0,ao,b0,b1,aC,aM,J,⟨g,a7,aN,aS⟩,z,I,y,E,aF,aK⟩:=hst;go_simp;refine(de.out r (a3.out.trans (J.mono a3.out.size))).mono ?_;rintro cJ wc ⟨P,T,bD,h1,au⟩;subst bD;have hsz:=a3.out.size;have cV:=J.size;exact an _ _ ⟨V a0 au,V ao au,V b0 au,V b1 au,V aC au,V aM au,ax J au,⟨g,a7,aG aN au (am aN),aS⟩,z,I,y,E,aF,R ⟨bo aK.out.1 au,bo aK.out.2 au⟩,P,T,R rfl,R (dn h1 (by omega))⟩
   | succ N=>
    cases N with
    | zero=>
     cases ht;cases a5
     cases b
     ·obtain⟨a0,ao,b0,b1,aC,aM,J,z,I,y,E,aF,aK,P,T,a6,bh⟩:=hst
      have aZ:=aF.out;have c2:=a6.out;rw[aZ,c2] at an |-;go_simp;exact an _ _ ⟨a0,ao,b0,b1,aC,aM,J,z,I,y,E,aF,aK,P,T,a6,bh,R rfl⟩
     obtain⟨a0,ao,b0,b1,aC,aM,J,⟨g,a7,aN,aS⟩,z,I,y,E,aF,aK,P,T,a6,bh⟩:=hst;have aZ:=aF.out;have c2:=a6.out;rw[aZ,c2] at an |-;go_simp;exact an _ _ ⟨a0,ao,b0,b1,aC,aM,J,⟨g,a7,aN,aS⟩,z,I,y,E,aF,aK,P,T,a6,bh,R rfl⟩
    | succ N=>
     cases N with
     | zero=>
      cases ht;cases a5
      cases b
      ·exact absurd (fs (by kernel_rfl)) (by decide)
      obtain⟨a0,ao,b0,b1,aC,aM,J,⟨g,a7,aN,aS⟩,z,I,y,E,aF,aK,P,T,a6,bh,bE⟩:=hst;have aZ:=a7.out;have aI:=bE.out;obtain⟨b3,bN,bO,cD,fN,fO⟩:=cx aN;have fP:=br aN;have fS:=am aN;have bX:=aK.out.1;have bY:=aK.out.2;have bZ:=bh.out;have bG:=dy bX aN (by decide);have bH:=dy bY aN (by decide);have bI:=dy bZ aN (by decide);have fk:=R (bq (bq (bq (bq (bq (bq aN 0 (B o W)) 1 (B o H)) 2 (O z nm I)) 3 (O y nc E)) 4 (O P np T)) 5 (O F 0 0));have fd:=R ((((((J.setCell (p:=⟨g,0,F⟩) aS.out (B o W)).setCell (p:=⟨g,1,F⟩) aS.out (B o H)).setCell (p:=⟨g,2,F⟩) aS.out (O z nm I)).setCell (p:=⟨g,3,F⟩) aS.out (O y nc E)).setCell (p:=⟨g,4,F⟩) aS.out (O P np T)).setCell (p:=⟨g,5,F⟩) aS.out (O F 0 0))
      have fE:=R (dg (dg (dg (dg (dg (dg bX (fun k ay e=>bG (by rw[ay,e])) 0 (B o W)) (fun k ay e=>bG (by rw[ay,e])) 1 (B o H)) (fun k ay e=>bG (by rw[ay,e])) 2 (O z nm I)) (fun k ay e=>bG (by rw[ay,e])) 3 (O y nc E)) (fun k ay e=>bG (by rw[ay,e])) 4 (O P np T)) (fun k ay e=>bG (by rw[ay,e])) 5 (O F 0 0));have fF:=R (dg (dg (dg (dg (dg (dg bY (fun k ay e=>bH (by rw[ay,e])) 0 (B o W)) (fun k ay e=>bH (by rw[ay,e])) 1 (B o H)) (fun k ay e=>bH (by rw[ay,e])) 2 (O z nm I)) (fun k ay e=>bH (by rw[ay,e])) 3 (O y nc E)) (fun k ay e=>bH (by rw[ay,e])) 4 (O P np T)) (fun k ay e=>bH (by rw[ay,e])) 5 (O F 0 0));have fG:=R (dg (dg (dg (dg (dg (dg bZ (fun k ay e=>bI (by rw[ay,e])) 0 (B o W)) (fun k ay e=>bI (by rw[ay,e])) 1 (B o H)) (fun k ay e=>bI (by rw[ay,e])) 2 (O z nm I)) (fun k ay e=>bI (by rw[ay,e])) 3 (O y nc E)) (fun k ay e=>bI (by rw[ay,e])) 4 (O P np T)) (fun k ay e=>bI (by rw[ay,e])) 5 (O F 0 0))
      clear bG bH bI bX bY bZ;rw[aZ,aI] at an |-;go_simp;exact an U _ ⟨fd.out,g,z,I,y,E,P,T,a7,by simpa using fk.out,aS,aF,a6,bE,R ⟨fE.out,fF.out,fG.out⟩⟩
     | succ N=>
      simp at ht
 case hF=>
  intro N x r bf hst af a5 K an;have bf:N<=4:=bf;cases a5
  rcases(show N=0∨N=1∨N=2∨N=3∨N=4 by omega) with rfl | rfl | rfl | rfl | rfl
  ·obtain⟨a0,ao,b0,b1,aC,aM,J⟩:=hst
   go_simp;exact an (ad (D ⟨r.heap.size,0,F⟩)) _ ⟨aD a0 (Y #[B o 0, B o 0, O F 0 0, O F 0 0, O F 0 0, O F 0 0] 29),aD ao (Y #[B o 0, B o 0, O F 0 0, O F 0 0, O F 0 0, O F 0 0] 29),aD b0 (Y #[B o 0, B o 0, O F 0 0, O F 0 0, O F 0 0, O F 0 0] 29),aD b1 (Y #[B o 0, B o 0, O F 0 0, O F 0 0, O F 0 0, O F 0 0] 29),aD aC (Y #[B o 0, B o 0, O F 0 0, O F 0 0, O F 0 0, O F 0 0] 29),aD aM (Y #[B o 0, B o 0, O F 0 0, O F 0 0, O F 0 0, O F 0 0] 29),J.alloc J.size (Y #[B o 0, B o 0, O F 0 0, O F 0 0, O F 0 0, O F 0 0] 29),⟨r.heap.size,R rfl,aQ r (Y #[B o 0, B o 0, O F 0 0, O F 0 0, O F 0 0, O F 0 0] 29),R J.size⟩⟩
  ·obtain⟨a0,ao,b0,b1,aC,aM,J,z,I,y,E,aF,aK⟩:=hst
   go_simp;exact an (ad (D ⟨r.heap.size,0,F⟩)) _ ⟨aD a0 (Y #[B o 0, B o 0, O F 0 0, O F 0 0, O F 0 0, O F 0 0] 29),aD ao (Y #[B o 0, B o 0, O F 0 0, O F 0 0, O F 0 0, O F 0 0] 29),aD b0 (Y #[B o 0, B o 0, O F 0 0, O F 0 0, O F 0 0, O F 0 0] 29),aD b1 (Y #[B o 0, B o 0, O F 0 0, O F 0 0, O F 0 0, O F 0 0] 29),aD aC (Y #[B o 0, B o 0, O F 0 0, O F 0 0, O F 0 0, O F 0 0] 29),aD aM (Y #[B o 0, B o 0, O F 0 0, O F 0 0, O F 0 0, O F 0 0] 29),J.alloc J.size (Y #[B o 0, B o 0, O F 0 0, O F 0 0, O F 0 0, O F 0 0] 29),⟨r.heap.size,R rfl,aQ r (Y #[B o 0, B o 0, O F 0 0, O F 0 0, O F 0 0, O F 0 0] 29),R J.size⟩,z,I,y,E,aF,R ⟨bo aK.out.1 (aV r (Y #[B o 0, B o 0, O F 0 0, O F 0 0, O F 0 0, O F 0 0] 29)),bo aK.out.2 (aV r (Y #[B o 0, B o 0, O F 0 0, O F 0 0, O F 0 0, O F 0 0] 29))⟩⟩
  ·obtain⟨a0,ao,b0,b1,aC,aM,J,z,I,y,E,aF,aK,P,T,a6,bh⟩:=hst
   go_simp;exact an (ad (D ⟨r.heap.size,0,F⟩)) _ ⟨aD a0 (Y #[B o 0, B o 0, O F 0 0, O F 0 0, O F 0 0, O F 0 0] 29),aD ao (Y #[B o 0, B o 0, O F 0 0, O F 0 0, O F 0 0, O F 0 0] 29),aD b0 (Y #[B o 0, B o 0, O F 0 0, O F 0 0, O F 0 0, O F 0 0] 29),aD b1 (Y #[B o 0, B o 0, O F 0 0, O F 0 0, O F 0 0, O F 0 0] 29),aD aC (Y #[B o 0, B o 0, O F 0 0, O F 0 0, O F 0 0, O F 0 0] 29),aD aM (Y #[B o 0, B o 0, O F 0 0, O F 0 0, O F 0 0, O F 0 0] 29),J.alloc J.size (Y #[B o 0, B o 0, O F 0 0, O F 0 0, O F 0 0, O F 0 0] 29),⟨r.heap.size,R rfl,aQ r (Y #[B o 0, B o 0, O F 0 0, O F 0 0, O F 0 0, O F 0 0] 29),R J.size⟩,z,I,y,E,aF,R ⟨bo aK.out.1 (aV r (Y #[B o 0, B o 0, O F 0 0, O F 0 0, O F 0 0, O F 0 0] 29)),bo aK.out.2 (aV r (Y #[B o 0, B o 0, O F 0 0, O F 0 0, O F 0 0, O F 0 0] 29))⟩,P,T,a6,R (bo bh.out (aV r (Y #[B o 0, B o 0, O F 0 0, O F 0 0, O F 0 0, O F 0 0] 29)))⟩
  ·obtain⟨a0,ao,b0,b1,aC,aM,J,z,I,y,E,aF,aK,P,T,a6,bh,bE⟩:=hst
   go_simp;exact an (ad (D ⟨r.heap.size,0,F⟩)) _ ⟨aD a0 (Y #[B o 0, B o 0, O F 0 0, O F 0 0, O F 0 0, O F 0 0] 29),aD ao (Y #[B o 0, B o 0, O F 0 0, O F 0 0, O F 0 0, O F 0 0] 29),aD b0 (Y #[B o 0, B o 0, O F 0 0, O F 0 0, O F 0 0, O F 0 0] 29),aD b1 (Y #[B o 0, B o 0, O F 0 0, O F 0 0, O F 0 0, O F 0 0] 29),aD aC (Y #[B o 0, B o 0, O F 0 0, O F 0 0, O F 0 0, O F 0 0] 29),aD aM (Y #[B o 0, B o 0, O F 0 0, O F 0 0, O F 0 0, O F 0 0] 29),J.alloc J.size (Y #[B o 0, B o 0, O F 0 0, O F 0 0, O F 0 0, O F 0 0] 29),⟨r.heap.size,R rfl,aQ r (Y #[B o 0, B o 0, O F 0 0, O F 0 0, O F 0 0, O F 0 0] 29),R J.size⟩,z,I,y,E,aF,R ⟨bo aK.out.1 (aV r (Y #[B o 0, B o 0, O F 0 0, O F 0 0, O F 0 0, O F 0 0] 29)),bo aK.out.2 (aV r (Y #[B o 0, B o 0, O F 0 0, O F 0 0, O F 0 0, O F 0 0] 29))⟩,P,T,a6,R (bo bh.out (aV r (Y #[B o 0, B o 0, O F 0 0, O F 0 0, O F 0 0, O F 0 0] 29))),bE⟩
  ·exact hst.elim
 obtain⟨J,g,z,I,y,E,P,T,a7,aN,aS,aF,a6,bE,cz⟩:=hst;have dN:=aF.out;have ap:=a6.out;have ak:=bE.out;have dO:=a7.out;rw[dN,ap,ak,dO];obtain⟨be,rfl⟩:=ai r;have cA:Below w.heap.size w be:=a3.out.trans (J.mono a3.out.size);obtain⟨cG,dC⟩:=aY cA (aG cv.out J (am cv.out));have f5:=aS.out;have gi:w.heap.size < w1.heap.size:=am cv.out;have bC:=V cI.out.bC cA;obtain⟨ex,b6,dQ,gw,fi,d9,ea,fj⟩:=(ck.out.map.below cA ck.out.map.lt);have dW:∀aE:List ah,aE.Nodup->(∀a ∈ aE,gD.ok a/\(f a).isSome=S)->aE.length<=1000:=fun aE hn e9=>eG.out aE hn (fun x aZ=>(e9 x aZ).2);have ee:(be.alloc (Y #[.map (D aJ)] 60)).cell? ⟨be.heap.size,0,F⟩=D (.map (D aJ)):=(aB (aQ be (Y #[.map (D aJ)] 60)) 0).trans rfl
 have dD:=(callsIn_wide (n:=6)).1 (zC fR 6 trivial rfl (D aJ) be);have cS:=(callsIn_wide (n:=6)).1 (Cz 6 109 #[ad (D ⟨be.heap.size,0,F⟩)] (enters_of Tryz.func109 (by kernel_rfl) rfl) _ 1000 (be.alloc (Y #[.map (D aJ)] 60)) (by omega) (by omega) (zB fR 3 trivial rfl (by omega) be.heap.size aJ n 1000 ex _ dQ.keys dW (be.alloc (Y #[.map (D aJ)] 60)) (by simp) ee (b6.alloc _)));obtain⟨db,di,dq,ch⟩:=df dD cS (And.intro d9 ea) (show be.heap[g]? =D _ from aN);clear dN ap ak dO aF a6 bE a7 cA b6 dQ fi d9 ea fj dW ee dD cS aN a0 ao b0 b1 aC aM
 go_wp2_with (first
  | (go_at_call 65;refine aw db.out fun bL eq=> ?_;rw[eq])
  | (go_at_call 64;refine di.out.mono ?_;rintro e bL ⟨v,aE,rfl,eo,fo,b9,d2⟩;obtain⟨fV,f0,ca,_,_⟩:=dd b9;subst ca;have co:=R eo;have cl:=R b9;have dj:=R d2;clear eo b9 d2 eq)
  | fail)
 obtain⟨aP,cd⟩:=ai (gF aE);have c0:aP.length=aE.length:=by rw[cd];exact(mi aE).length_eq
 rw[<-cd] at cl;rw[<-c0] at cl |-;have fo:aP.length<=1000:=by omega
 have bk:Below be.heap.size be bL:=(aV be _).trans (dj.out.mono (by simp));have eg:∀x ∈ aP,bj x.1/\bj x.2.1/\bj x.2.2:=fun x aZ=>((co.out.mem x).1 ((mi aE).mem_iff.1 (by rw[<-cd];exact aZ))).1;obtain⟨eW,eS,eI⟩:=cq cd c0 eg;have cM:=am ch.out;have ed:=dn cl.out (show be.heap.size<=_ by simp);have eH:=R ed;have dU:eU bL g W H (O z nm I) (O y nc E) (O P np T) (O F 0 0) (O F 0 0) [] bL:=⟨da.refl _ _ _,aG ch.out bk cM,dv.nil _ _,Nat.lt_of_lt_of_le cM bk.size⟩;obtain⟨dk,ci,eX,dA,bP⟩:=dY dU (aG ch.out bk cM) (aG dC.out bk (am dC.out)) (cG.out.trans (bk.mono cG.out.size)) (And.intro (bo cz.out.1 bk) (And.intro (bo cz.out.2.1 bk) (bo cz.out.2.2 bk)));have fe:=aS.out;have gg:=a3.out.size
 have cC:w.heap.size<=g:=by omega
 have gp:=bk.size;have gf:=cG.out.size;clear cd c0 eg ed dU bk cl dj db di cz J ch fe;go_loopw [30] (fun v wr=>∃(i:Nat) (cw:ae),i<=aP.length/\v= B o i/\Hid (eU bL g W H (O z nm I) (O y nc E) (O P np T) cw cw (fb L G (aP.take i)) wr)) (fun v _=>aP.length-(intOf v).toNat)
 case atStart=>exact⟨0, O F 0 0,by omega,rfl,dk⟩
 clear dk bC;obtain⟨i,cw,al,rfl,a4⟩:=hrel;by_cases fg:i < aP.length
 ·obtain⟨M,aZ⟩:∃x,aP[i]? =D x:=⟨_,bb fg⟩
  have f9:(i:Int) < (aP.length:Int):=by omega
  have f8:(0:Int)<=(i:Int):=by omega
  have es:=eI.out M (cH aZ);obtain⟨eR,eV⟩:=aY aZ es;have cQ:=eH.out;obtain⟨e6,e4,fZ,fr,_,_,_,d8⟩:=dF cQ (show 0 < aP.length by omega);cases fr
  have bS:e6≠g:=fun e=>by
   obtain⟨af,a5⟩:∃cs,bL.heap[g]? =D (.cells cs 29 (0,0)):=⟨_,ci.out⟩;rw[<-e,d8] at a5;simp at a5
  obtain⟨c5,c6,c7⟩:=ey cQ aZ;have c5:=a4.out.cb.cell c5 bS bS;have c6:=a4.out.cb.cell c6 bS bS;have c7:=a4.out.cb.cell c7 bS bS;obtain⟨aH,rfl⟩:=ai wr;have d4:Below aH.heap.size aH ((aH.alloc (Y #[B o M.1, B o M.2.1, B o M.2.2] 53)).alloc (Y #[B o M.1, B o M.2.1, B o M.2.2, O F 0 0] 56)):=(aV aH (Y #[B o M.1, B o M.2.1, B o M.2.2] 53)).alloc (by simp) (Y #[B o M.1, B o M.2.1, B o M.2.2, O F 0 0] 56);have et:=aW (aQ aH (Y #[B o M.1, B o M.2.1, B o M.2.2] 53)) (Y #[B o M.1, B o M.2.1, B o M.2.2, O F 0 0] 56);have c3:=aQ (aH.alloc (Y #[B o M.1, B o M.2.1, B o M.2.2] 53)) (Y #[B o M.1, B o M.2.1, B o M.2.2, O F 0 0] 56)
  rw[em] at c3;have hsz2:((aH.alloc (Y #[B o M.1, B o M.2.1, B o M.2.2] 53)).alloc (Y #[B o M.1, B o M.2.1, B o M.2.2, O F 0 0] 56)).heap.size=aH.heap.size+2:=by simp
  have gv:=a4.out.cb.size;have er:Below w.heap.size w aH:=dA.out.trans (a4.out.cb.out cC cC (by omega));have ct:=R er;have eD:=a4;clear aZ es cQ d8 a4 er
  go_wp2_with fail
  obtain⟨b3,bN,bO⟩:=dl et;obtain⟨cg,cE⟩:=aY d4 c3;clear c5 c6 c7 et c3 d4;generalize (aH.alloc (Y #[B o M.1, B o M.2.1, B o M.2.2] 53)).alloc (Y #[B o M.1, B o M.2.1, B o M.2.2, O F 0 0] 56)=w7 at b3 bN bO cg cE hsz2 |-;have cB:Below w.heap.size w w7:=ct.out.trans (cg.out.mono ct.out.size);have bC:=V cI.out.bC cB;have cK:=ck.out.below (cB.mono ce);obtain⟨bl,b7⟩:=ai ((G M).length);have cW:=cK.val M;have gd:bl<=1000:=by rw[b7];exact eC.out M
  rw[<-b7] at cW;obtain⟨c8,dH,cX,_⟩:=dd cW;have cY:=ck.out.val M;rw[<-b7,cX] at cY;have cR:∀W':ac,Below w7.heap.size w7 W'->(Instr.lookup 60 (.map (D aJ)) (bK M) Q).run aj W'= .ok (O c8 bl dH) W':=fun W' bR=>by
   have h1:=(cK.map.stay bR).gZ (a:=M) eV.out;rw[<-cX];exact h1
  obtain⟨dr,dz,du,dB⟩:=df cR cY b7 cB;clear cR cW cX b7 cK cB cY;refine bW (fin:= ?bO) [ad (D ⟨ar,0,F⟩), ad (D ⟨ar,0,F⟩), ad (D ⟨ar,4,F⟩), .map (D aJ),bK M, O c8 bl dH, B o (bl:Int), B o 0] ?hf bp (by kernel_rfl) rfl fun r hst=> ?_;case hf=>simp only[aT,Act.put,bd,ba,bc];exact rfl
  have dw:=R hst;have J:=hst;obtain⟨bC,b3,bN,bO⟩:=fQ J bC b3 bN bO;constructor
  ·iterate 8 refine⟨?_,fun K an=> ?_⟩
   ·trivial
   all_goals try (go_simp;exact an _ dw.out;done)
   have cR:=dr.out r J;go_simp;exact an _ dw.out
  obtain⟨bA,rfl⟩:=ai r;have dX:hq aH bA (aH.heap.size+1) M (O F 0 0) [] bA:=⟨cg.out.trans (J.mono cg.out.size),aG cE.out J (am cE.out),gl _ _ _ _,by omega,by have:=J.size;omega,ce⟩;have dt:=R dX;have gq:=J.size;have fX:=R (dB.out.trans (J.mono dB.out.size));clear dX bC b3 bN bO dr J
  go_wp2_with fail
  go_loopw [43] (fun v wr=>∃(h:Nat) (bv:ae),h<=bl/\v= B o h/\Hid (hq aH bA (aH.heap.size+1) M bv (gh L ((G M).take h)) wr)) (fun v _=>bl-(intOf v).toNat)
  case atStart=>exact⟨0, O F 0 0,by omega,rfl,dt⟩
  clear dt;obtain⟨h,bv,hh,rfl,aL⟩:=hrel;by_cases ff:h < bl
  ·obtain⟨j,bf⟩:∃j,(G M)[h]? =D j:=⟨_,bb (by rw[<-du.out];exact ff)⟩
   have fh:=eA.out M j (cH bf);obtain⟨t,ht⟩:∃t,L[j]? =D t:=⟨_,bb fh⟩;obtain⟨f1,fY,_,fm,_,_,_,_⟩:=dF dz.out (show 0 < bl by omega);cases fm
   obtain⟨b2,rfl⟩:=ai wr;have cL:Below w.heap.size w b2:=ct.out.trans (aL.out.bel.mono ct.out.size);have a1:=V (uT dz.out bf) cL;obtain⟨bm,bs,bt⟩:=ey eJ.out ht;obtain⟨bm,bs,bt,a0,bJ⟩:=mc cL bm bs bt cI.out.a1 eL.out.bC;have dZ:=aL.out.cell;obtain⟨l,av⟩:=ai (gh L ((G M).take h));have gc:l.length<=1000:=by rw[av,C8,List.length_take];omega
   have bU:=C9 bf ht;rw[<-av] at aL bU;have f7:(h:Int) < (bl:Int):=by omega
   have f6:(0:Int)<=(h:Int):=by omega
   have gb:(j:Int) < (L.length:Int):=by omega
   have ga:(0:Int)<=(j:Int):=by omega
   have cj:=R bU;clear bf ht av bU cL
   go_wp2_with fail
   refine ir (fin:= ?cD) [12,13,15] [[S,S,S,S,S,S,S,S,S,S,S,S,Q,Q,S,Q], [S,S,Q,Q,Q,Q,Q,Q,Q,Q,Q,Q,Q,Q,S,Q], [Q,Q,Q,Q,Q,Q,Q,Q,Q,Q,Q,Q,Q,Q,S,Q], [Q,Q,Q,Q,Q,Q,Q,Q,Q,Q,Q,Q,Q,Q,Q,Q]] [[11,10,8,9,7,6,5,4,3,2], [1,12,0,11,10,8,9,7,6,5,4,3,2], [14,13,1,12,0,11,10,8,9,7,6,5,4,3,2]] (fun x=> [ad (D ⟨aH.heap.size+1,3,F⟩),bv, ad (D ⟨ar,0,F⟩), ad (D ⟨ar,0,F⟩), ad (D ⟨ar,0,F⟩), ad (D ⟨aA,0,F⟩), ad (D ⟨aA,0,F⟩), ad (D ⟨aA,4,F⟩), O (D ⟨gt,0,F⟩) L.length dx, B o (j:Int), ad (D ⟨gt,j*3,F⟩),bK t,(x 0),(x 1), ad (D ⟨aH.heap.size+1,3,F⟩),(x 2)]) (fun N x r=>match N with | 0=>r.cell? ⟨aH.heap.size+1,3,F⟩=D (bv)/\r.cell? ⟨ar,0,F⟩=D (ad (D ⟨aA,0,F⟩))/\r.cell? ⟨aA,4,F⟩=D (O (D ⟨gt,0,F⟩) L.length dx)/\r.cell? ⟨gt,j*3,F⟩=D (B o t.1)/\r.cell? ⟨gt,j*3+1,F⟩=D (B o t.2.1)/\r.cell? ⟨gt,j*3+2,F⟩=D (B o t.2.2)/\Below b2.heap.size b2 r/\Hid (hq aH bA (aH.heap.size+1) M bv l r) | 1=>r.cell? ⟨aH.heap.size+1,3,F⟩=D (bv)/\r.cell? ⟨ar,0,F⟩=D (ad (D ⟨aA,0,F⟩))/\r.cell? ⟨aA,4,F⟩=D (O (D ⟨gt,0,F⟩) L.length dx)/\r.cell? ⟨gt,j*3,F⟩=D (B o t.1)/\r.cell? ⟨gt,j*3+1,F⟩=D (B o t.2.1)/\r.cell? ⟨gt,j*3+2,F⟩=D (B o t.2.2)/\Below b2.heap.size b2 r/\Hid (hq aH bA (aH.heap.size+1) M bv l r)/\∃b4,Hid (x 0= O (D ⟨b4,0,F⟩) 1 1)/\r.heap[b4]? =D (Y #[B o t.1, B o t.2.1, B o t.2.2] 53 (0,0)) | 2=>Hid (Below aH.heap.size aH r)/\Hid (r.heap[aH.heap.size+1]? =D (Y #[B o M.1, B o M.2.1, B o M.2.2,bv] 56 (0,0)))/\Hid (r.ownsRow bA.heap.size 53 3 (x 1) (l++ [t]).length (bn (l++ [t])))/\Hid (bA.heap.size<=r.heap.size) | _=>Hid (hq aH bA (aH.heap.size+1) M (x 1) (l++ [t]) r)) ?hf (by kernel_rfl) (by kernel_rfl) (fun _=>rfl) (by kernel_rfl) ?ca ⟨dZ,a0,bJ,bm,bs,bt,aX.drew,R (aL.out.below aX.drew)⟩ ?hA ?bi (fun x r hst=> ?bD)
   case hf=>intro x;simp only[aT,Act.put,bd,ba,bc];exact rfl
   case ca=>
    intro x N t v h
    cases N with
    | zero=>cases h;rfl
    | succ N=>
     cases N with
     | zero=>cases h;rfl
     | succ N=>
      cases N with
      | zero=>cases h;rfl
      | succ N=>
       simp at h
   case hA=>
    intro N x r bf hst;have bf:N<=3:=bf;rcases(show N=0∨N=1∨N=2∨N=3 by omega) with rfl | rfl | rfl | rfl
    ·have a2:=R hst
     obtain⟨dZ,a0,bJ,bm,bs,bt,J,aL⟩:=hst;iterate 13 refine⟨?_,fun K an=> ?_⟩
     ·trivial
     all_goals try (go_simp;exact an _ a2.out;done)
    ·have a2:=R hst
     obtain⟨dZ,a0,bJ,bm,bs,bt,J,aL,b4,aF,aN⟩:=hst;iterate 3 refine⟨?_,fun K an=> ?_⟩
     ·trivial
     all_goals try (go_simp;exact an _ a2.out;done)
    ·have a2:=R hst
     obtain⟨h1,ab,ag,az⟩:=hst;iterate 1 refine⟨?_,fun K an=> ?_⟩
     ·trivial
     all_goals try (go_simp;exact an _ a2.out;done)
    ·trivial
   case bi=>
    intro N t x r ht hst af a5 K an
    cases N with
    | zero=>
     cases ht;cases a5
     obtain⟨dZ,a0,bJ,bm,bs,bt,J,aL⟩:=hst;go_simp;exact an (O (D ⟨r.heap.size,0,F⟩) 1 1) _ ⟨aD dZ (Y #[B o t.1, B o t.2.1, B o t.2.2] 53),aD a0 (Y #[B o t.1, B o t.2.1, B o t.2.2] 53),aD bJ (Y #[B o t.1, B o t.2.1, B o t.2.2] 53),aD bm (Y #[B o t.1, B o t.2.1, B o t.2.2] 53),aD bs (Y #[B o t.1, B o t.2.1, B o t.2.2] 53),aD bt (Y #[B o t.1, B o t.2.1, B o t.2.2] 53),J.alloc J.size (Y #[B o t.1, B o t.2.1, B o t.2.2] 53),R (aL.out.below (aV r (Y #[B o t.1, B o t.2.1, B o t.2.2] 53))),r.heap.size,R rfl,aQ r (Y #[B o t.1, B o t.2.1, B o t.2.2] 53)⟩
    | succ N=>
     cases N with
     | zero=>
      cases ht;cases a5
      obtain⟨dZ,a0,bJ,bm,bs,bt,J,aL,b4,aF,aN⟩:=hst;have b9:=aL.out.row;have hsz:=aL.out.ge.2.2;refine nv Tryz.underlying54 jm rfl (by decide) (by decide) rfl _ _ rfl bA.heap.size bv l.length (bn l) [B o t.1, B o t.2.1, B o t.2.2] rfl b9 hsz 1 b4 aF.out aN rfl (jX _ _ _) (by omega) (fun fK fL h1 ab ag=>an fK fL ?_);obtain⟨fz,fA,fB,fC⟩:=aL.out.grow h1 ab ag;exact⟨R fz,R fA,R fB,R fC⟩
     | succ N=>
      cases N with
      | zero=>
       cases ht;cases a5
       obtain⟨h1,ab,ag,az⟩:=hst;obtain⟨fU,gx,hr,cZ⟩:∃A n c,x 1= O A n c:=by obtain⟨A,c,h,_⟩:=dd ag.out;exact⟨A,_,c,h⟩
       rw[cZ] at an |-;have fP:=br ab.out;have fS:=am ab.out;have cD:=aB ab.out 3;simp only[cP,cU,cO] at cD;have cN:=ag.out;rw[cZ] at cN;have d5:=hq.set h1.out ab.out cN ⟨by omega,by omega⟩ az.out;have ez:=R d5;clear d5 cN;go_simp;refine an U _ ?_;rw[show gj x (0+1+1) U 1=x 1 from rfl,cZ];exact ez
      | succ N=>
       simp at ht
   have aL:=hst;rw[<-cj.out] at aL;obtain⟨eZ,d1⟩:=ai (x 1);rw[<-d1] at aL;have eN:=aL;clear d1 aL cj a1 bm bs bt a0 bJ dZ;have gr:IntKind.i64.wrap ((h:Int)+1)=((h+1:Nat):Int):=by rw[IntWalk.i64_in _ (by omega)];omega
   go_wp2;go_roundw
   case rel=>exact⟨h+1,eZ,by omega,by first | rfl | go_num,eN⟩
   case measure=>simp[intOf];omega
  obtain rfl:h=bl:=by omega
  rw[du.out,List.take_length] at aL;obtain⟨b2,rfl⟩:=ai wr;have cy:=eD.out.below aL.out.bel;obtain⟨fM,b6,el⟩:=cy.push (s:=(M,gh L (G M))) (dn aL.out.row (by have:=aL.out.ge;omega));obtain⟨ev,e3,e8,_⟩:=dd aL.out.row;subst e8;have b8:=cy.cell;have bg:=aL.out.bT;obtain⟨gy,gz,gA,gB⟩:=dm bg;have ep:(fb L G (aP.take i)).length=i:=by simp[fb];omega
  have bU:=CS (L:=L) (G:=G) eR.out;have fp:=cy.cb.size;obtain⟨eK,eM,cj,eQ⟩:=df b6 el bU ep;clear b6 el bU bg cy aL ep
  go_wp2_with (first
   | (at_builtin;go_loud (refine i0 Tryz.underlying27 rS rfl (by decide) (by decide) rfl (.tmp 64) (.tmp 66) rfl bL.heap.size cw (fb L G (aP.take i)).length fM [B o M.1, B o M.2.1, B o M.2.2, O ev (gh L (G M)).length e3] rfl eK.out fp 1 _ rfl rfl rfl (rU _ _ _ _ _ _) (by rw[eQ.out];omega) ?_);intro a8 Z cT fa d7;have bQ:=eM.out a8 Z cT d7;obtain⟨fW,e4,fq,_,_⟩:=dd cT;subst fq;have e5:=br bQ.bT;have fD:=am bQ.bT;have e2:=bQ.cell;rw[<-cj.out] at bQ;have dp:=R bQ;clear cT fa d7 bQ)
   | fail)
  have eF:=R dp.out.store;have gu:IntKind.i64.wrap ((i:Int)+1)=((i+1:Nat):Int):=by rw[IntWalk.i64_in _ (by omega)];omega
  clear e5 fD e2 dp;try go_wp2
  go_roundw
  case rel=>exact⟨i+1,_,by omega,by first | rfl | go_num,eF⟩
  case measure=>simp[intOf];omega
 obtain rfl:i=aP.length:=by omega
 rw[List.take_length] at a4;obtain⟨bu,bx,e7⟩:=a4.out.dS.nr;subst e7;have a9:=a4.out.cb.il eX.out (show w.heap.size≠g by omega) (show w.heap.size≠g by omega);have d6:=a4.out.bT;obtain⟨b3,bN,bO,cD,fN,fO⟩:=cx d6;obtain⟨bm,bs,bt,gC,gE,gG⟩:=cx a9;have gH:=br a9;have gI:=am a9;clear d6;have eY:=R a9;clear a9
 go_wp2_with fail
 have a9:=eY.out;have ei:=dy bP.out.1 ci.out (by decide);have ej:=dy bP.out.2.1 ci.out (by decide);have ek:=dy bP.out.2.2 ci.out (by decide);have fc:Below w.heap.size w wr:=dA.out.trans (a4.out.cb.out cC cC (by omega));have eb:=kU a9 (B o W) (B o H) (O z nm I) (O y nc E) (O P np T) (O bu (fb L G aP).length bx);have bX:=hM (jM bP.out.1 a4.out.cb ei ei) a9 (by decide) (B o W) (B o H) (O z nm I) (O y nc E) (O P np T) (O bu (fb L G aP).length bx);have bY:=hM (jM bP.out.2.1 a4.out.cb ej ej) a9 (by decide) (B o W) (B o H) (O z nm I) (O y nc E) (O P np T) (O bu (fb L G aP).length bx);have bZ:=hM (jM bP.out.2.2 a4.out.cb ek ek) a9 (by decide) (B o W) (B o H) (O z nm I) (O y nc E) (O P np T) (O bu (fb L G aP).length bx)
 have eu:=a4.out.dS.jh a9 (by decide) (by decide) (B o W) (B o H) (O z nm I) (O y nc E) (O P np T) (O bu (fb L G aP).length bx);have d3:=kT fc (Nat.le_refl w.heap.size) (B o W) (B o H) (O z nm I) (O y nc E) (O P np T) (O bu (fb L G aP).length bx);generalize ((((((wr.setCell ⟨w.heap.size,0,F⟩ (B o W)).setCell ⟨w.heap.size,1,F⟩ (B o H)).setCell ⟨w.heap.size,2,F⟩ (O z nm I)).setCell ⟨w.heap.size,3,F⟩ (O y nc E)).setCell ⟨w.heap.size,4,F⟩ (O P np T)).setCell ⟨w.heap.size,5,F⟩ (O bu (fb L G aP).length bx))=wF at eb bX bY bZ eu d3 |-;obtain⟨ft,fu,fv,fw,fx,fy⟩:=cx eb;have en:(fb L G aP).length=aE.length:=by rw[fb,gM,eS.out]
 refine bodyPost_ret (v:= aq #[B o W, B o H, O z nm I, O y nc E, O P np T, O bu (fb L G aP).length bx]) (by simp[results,Tryz.results25,go_sem,ft,fu,fv,fw,fx,fy]) rfl ⟨z,I,y,E,P,T,bu,bx,aE,by rw[en],bX,bY,bZ, ?_,co.out.nodup,fun x=>⟨fun h=>((co.out.mem x).1 h).2,fun h=>(co.out.mem x).2 ⟨dq.out.2 x ((dq.out.1 x).1 h),h⟩⟩,d3⟩;rw[<-eW.out,<-en];exact eu.mono (by omega)
end
section
open Go.RowKit Go.Maps Go.Sort Go.Shelf
end
section
open Go.RowKit Go.Maps
theorem uK{W H:Int}{mask:List Int}{cs:List bw}(h:fu W H mask cs=S):gc (bG W.toNat mask)=S:=by
 unfold fu at h;simp only[cu] at h;exact h.2.2
end
section
open Go.RowKit Go.Maps
theorem rE{w Z:ac}{aF aJ G aL n:Nat}{e:dK}{v:ae}{M:List ae}(h:da w Z aF aJ)(af:w.ownsRow G e aL v n M)(av:∃cs,w.heap[aF]? =D (.cells cs 3 (0,0)))(a8:∃aX c,w.heap[aJ]? =D (.map aX c))(a9:e≠3):Z.ownsRow G e aL v n M:=by
 obtain⟨cs,av⟩:=av;have h1:=dy af av a9;have ab:=eN af a8;refine⟨af.1, ?_⟩;rcases af.2 with h0 | ⟨g,I,N,rfl,A,J,rest⟩
 ·exact .inl h0
 ·exact .inr ⟨g,I,N,rfl,A,h.il J (fun e=>h1 (by rw[<-e];rfl)) (fun e=>ab (by rw[<-e];rfl)),rest⟩
theorem za{L:List ah}(hnd:L.Nodup){i:Nat}(al:i < L.length):L.idxOf L[i]=i:=by
 have h1:=gK (List.getElem_mem al);have ab:L[L.idxOf L[i]]=L[i]:=List.getElem_idxOf h1;exact(List.getElem_inj hnd).1 ab
theorem Ad{L:List ah}{ms:List aR}{sts:List aP}{y:List Nat}(hnd:L.Nodup)(aK:eo L ms sts)(av:y.length=L.length)(bf:l3 L sts sts.length 0 y):y.map (fun z=>((z:Nat):Int))=L.map (cy sts):=by
 apply List.ext_getElem (by simp[av])
 intro i h1 ab;simp only[gM] at h1 ab;simp only[List.getElem_map];obtain⟨j,s,an,ht⟩:=o2 hnd aK (List.getElem_mem ab);rw[pp aK an ht];have aT:=bf j s (s.2.idxOf L[i]) L[i] (.inl (bM.1 an).1) an (by rw[bb (gK ht),List.getElem_idxOf]);rw[za hnd ab,bb h1] at aT;rw[cn aT]
theorem wa(y:List Nat):di y=bF (y.map fun z=>((z:Nat):Int)):=by
 unfold di bF;rw[List.map_map];rfl
theorem vl{w:ac}{g n:Nat}{l:List Int}(h:w.heap[g]? =D (Y (bF l).toArray 3 (0,0)))(hn:n=l.length):Rd w 1 (D ⟨g,0,F⟩) n (bF l):=by
 refine⟨by rw[gM];omega,fun h0=>⟨g,0,rfl,am h,fun j u P=> ?_⟩⟩;rw[fT,aB h j];simpa using P
structure gP(E:Nat)(q:ho)(L:List ah)(ms:List aR)(bh:List ah)(y:List Nat)(aU:aO->Option Int)(w:ac):Prop where
 cj:eE w q.aA q.bz q.bg q.W q.H q.aS q.bD (O (D ⟨q.gt,0,F⟩) L.length q.dx) L q.dc q.ro aU
 cd:dP w q.ar q.aA (O (D ⟨q.bN,0,F⟩) L.length q.cm) (O (D ⟨q.cD,0,F⟩) L.length q.eh) (O (D ⟨q.aF,0,F⟩) L.length L.length) q.aJ
 map:w.ownsRow E 64 6 (O (D ⟨q.bN,0,F⟩) L.length q.cm) L.length (b5 ms)
 at_:w.ownsRow E 53 3 (O (D ⟨q.cD,0,F⟩) L.length q.eh) L.length (bn bh)
 ay:w.ownsRow E 53 3 (O (D ⟨q.gt,0,F⟩) L.length q.dx) L.length (bn L)
 c8:w.heap[q.aF]? =D (Y (di y).toArray 3 (0,0))
 e6:q.gt≠q.cD/\E<=q.ar/\E<=q.aF/\E<=q.aJ
section
variable {E:Nat} {q:ho} {L:List ah} {ms:List aR} {bh:List ah} {y:List Nat} {aU:aO->Option Int} {w Z:ac}
theorem gP.below(h:gP E q L ms bh y aU w)(A:Below w.heap.size w Z):gP E q L ms bh y aU Z:=
 ⟨h.cj.below A,h.cd.below A,bo h.map A,bo h.at_ A,bo h.ay A,aG h.c8 A (am h.c8),h.e6⟩
theorem gP.BJ(h:gP E q L ms (d6 L ms) y aU w)(av:y.length=L.length):fe q L ms (y.map fun z=>((z:Nat):Int)) aU w:=
 ⟨h.cj,h.cd,Rd.dB h.map,Rd.dB h.at_,Rd.dB h.ay,vl (by rw[<-wa];exact h.c8) (by simp[av])⟩
theorem kt{G aL n I g:Nat}{e:dK}{M:List ae}(h:w.ownsRow G e aL (O (D ⟨g,0,F⟩) n I) n M)(i:Nat)(u:ae):(w.setCell ⟨g,i,F⟩ u).ownsRow G e aL (O (D ⟨g,0,F⟩) n I) n (M.set i u):=by
 refine⟨by rw[List.length_set];exact h.1, ?_⟩;rcases h.2 with ⟨h0,_⟩ | ⟨bE,bx,N,a5,A,J,h1,ab,ag,az⟩
 ·cases h0
 cases a5
 refine .inr ⟨g,I,N.setIfInBounds i u,rfl,A,bq J i u,h1,ab,by simpa using ag, ?_⟩;rw[Array.toList_setIfInBounds,List.take_set,az]
theorem uo:∀(l:List aR) (i:Nat) (m:aR),i < l.length->((((((b5 l).set (i*6) (B o m.1)).set (i*6+1) (B o m.2.1)).set (i*6+2) (B o m.2.2.1)).set (i*6+3) (B o m.2.2.2.1)).set (i*6+4) (B o m.2.2.2.2.1)).set (i*6+5) (B o m.2.2.2.2.2)=b5 (l.set i m)
 | [],i,m,h=>by simp at h
 | a::l,0,m,_=>rfl
 | a::l,i+1,m,h=>by
  have:=uo l i m (by simpa using h);have e:∀k,(i+1)*6+k=(i*6+k)+1+1+1+1+1+1:=fun k=>by omega
  have ai:(i+1)*6=(i*6)+1+1+1+1+1+1:=by omega
  rw[m0,ba,m0,e 1,e 2,e 3,e 4,e 5,ai];simp only[ba];rw[this]
theorem vO:∀(l:List ah) (i:Nat) (t:ah),i < l.length->(((bn l).set (i*3) (B o t.1)).set (i*3+1) (B o t.2.1)).set (i*3+2) (B o t.2.2)=bn (l.set i t)
 | [],i,t,h=>by simp at h
 | a::l,0,t,_=>rfl
 | a::l,i+1,t,h=>by
  have:=vO l i t (by simpa using h);have hc:∀(x:ah) (r:List ah),bn (x::r)= B o x.1:: B o x.2.1:: B o x.2.2::bn r:=fun x r=>rfl;have e:∀k,(i+1)*3+k=(i*3+k)+1+1+1:=fun k=>by omega
  have ai:(i+1)*3=(i*3)+1+1+1:=by omega
  rw[hc,ba,hc,e 1,e 2,ai];simp only[ba];rw[this]
def ji(w:ac)(g i:Nat)(m:aR):ac:=(((((w.setCell ⟨g,i*6,F⟩ (B o m.1)).setCell ⟨g,i*6+1,F⟩ (B o m.2.1)).setCell ⟨g,i*6+2,F⟩ (B o m.2.2.1)).setCell ⟨g,i*6+3,F⟩ (B o m.2.2.2.1)).setCell ⟨g,i*6+4,F⟩ (B o m.2.2.2.2.1)).setCell ⟨g,i*6+5,F⟩ (B o m.2.2.2.2.2)
def jj(w:ac)(g i:Nat)(t:ah):ac:=((w.setCell ⟨g,i*3,F⟩ (B o t.1)).setCell ⟨g,i*3+1,F⟩ (B o t.2.1)).setCell ⟨g,i*3+2,F⟩ (B o t.2.2)
theorem BE{G n I g:Nat}{ms:List aR}(h:w.ownsRow G 64 6 (O (D ⟨g,0,F⟩) n I) n (b5 ms)){i:Nat}(m:aR)(al:i < ms.length):(ji w g i m).ownsRow G 64 6 (O (D ⟨g,0,F⟩) n I) n (b5 (ms.set i m)):=by
 rw[<-uo ms i m al];exact kt (kt (kt (kt (kt (kt h _ _) _ _) _ _) _ _) _ _) _ _
theorem BF{G n I g:Nat}{l:List ah}(h:w.ownsRow G 53 3 (O (D ⟨g,0,F⟩) n I) n (bn l)){i:Nat}(t:ah)(al:i < l.length):(jj w g i t).ownsRow G 53 3 (O (D ⟨g,0,F⟩) n I) n (bn (l.set i t)):=by
 rw[<-vO l i t al];exact kt (kt (kt h _ _) _ _) _ _
theorem lY(g i:Nat)(m:aR){k:Nat}(R:k≠g):(ji w g i m).heap[k]? =w.heap[k]? :=by
 unfold ji;have h:=fun(W:ac) (j:Nat) (u:ae)=>Below.heap_setCell W ⟨g,j,F⟩ u k R;rw[h,h,h,h,h,h]
theorem lZ(g i:Nat)(t:ah){k:Nat}(R:k≠g):(jj w g i t).heap[k]? =w.heap[k]? :=by
 unfold jj;have h:=fun(W:ac) (j:Nat) (u:ae)=>Below.heap_setCell W ⟨g,j,F⟩ u k R;rw[h,h,h]
theorem oo{G aL n:Nat}{e:dK}{v:ae}{M:List ae}(h:w.ownsRow G e aL v n M)(R:∀b,v.ownBlock=D b->Z.heap[b]? =w.heap[b]?):Z.ownsRow G e aL v n M:=by
 refine⟨h.1, ?_⟩;rcases h.2 with h0 | ⟨g,I,N,rfl,A,J,rest⟩
 ·exact .inl h0
 ·exact .inr ⟨g,I,N,rfl,A,(R g rfl).trans J,rest⟩
theorem gP.ji(h:gP E q L ms bh y aU w)(i:Nat)(m:aR)(al:i < ms.length):gP E q L (ms.set i m) bh y aU (ji w q.bN i m):=by
 have bI:=h.map.lt _ rfl;have ao:q.aA≠q.bN:=fun e=>dy h.map h.cj.bT (by decide) (by rw[e];rfl);have ap:q.bz≠q.bN:=fun e=>eN h.map h.cj.num.is (by rw[e];rfl);have au:q.bg≠q.bN:=fun e=>eN h.map h.cj.d9.is (by rw[e];rfl);have aw:q.ar≠q.bN:=fun e=>dy h.map h.cd (by decide) (by rw[e];rfl);have ax:q.aF≠q.bN:=fun e=>dy h.map h.c8 (by decide) (by rw[e];rfl);have n6:q.cD≠q.bN:=fun e=>by
  obtain⟨_,_,aD,V,_,J,_⟩:=(h.at_.2.resolve_left (by rintro⟨h0,_⟩;cases h0));cases V
  exact dy h.map J (by decide) (by rw[e];rfl)
 have br:q.gt≠q.bN:=fun e=>by
  obtain⟨_,_,aD,V,_,J,_⟩:=(h.ay.2.resolve_left (by rintro⟨h0,_⟩;cases h0));cases V
  exact dy h.map J (by decide) (by rw[e];rfl)
 exact⟨⟨(lY _ _ _ ao).trans h.cj.bT,h.cj.num.heap (lY _ _ _ ap),h.cj.d9.heap (lY _ _ _ au)⟩,(lY _ _ _ aw).trans h.cd,BE h.map m al,oo h.at_ (fun b A=>by cases A;exact lY _ _ _ n6),oo h.ay (fun b A=>by cases A;exact lY _ _ _ br),(lY _ _ _ ax).trans h.c8,h.e6⟩
theorem gP.jj(h:gP E q L ms bh y aU w)(i:Nat)(t:ah)(al:i < bh.length):gP E q L ms (bh.set i t) y aU (jj w q.cD i t):=by
 have ao:q.aA≠q.cD:=fun e=>dy h.at_ h.cj.bT (by decide) (by rw[e];rfl);have ap:q.bz≠q.cD:=fun e=>eN h.at_ h.cj.num.is (by rw[e];rfl);have au:q.bg≠q.cD:=fun e=>eN h.at_ h.cj.d9.is (by rw[e];rfl);have aw:q.ar≠q.cD:=fun e=>dy h.at_ h.cd (by decide) (by rw[e];rfl);have ax:q.aF≠q.cD:=fun e=>dy h.at_ h.c8 (by decide) (by rw[e];rfl);have n6:q.bN≠q.cD:=fun e=>by
  obtain⟨_,_,aD,V,_,J,_⟩:=(h.map.2.resolve_left (by rintro⟨h0,_⟩;cases h0));cases V
  exact dy h.at_ J (by decide) (by rw[e];rfl)
 exact⟨⟨(lZ _ _ _ ao).trans h.cj.bT,h.cj.num.heap (lZ _ _ _ ap),h.cj.d9.heap (lZ _ _ _ au)⟩,(lZ _ _ _ aw).trans h.cd,oo h.map (fun b A=>by cases A;exact lZ _ _ _ n6),BF h.at_ t al,oo h.ay (fun b A=>by cases A;exact lZ _ _ _ h.e6.1),(lZ _ _ _ ax).trans h.c8,h.e6⟩
end
theorem oR.t{w Z:ac}{ar:Nat}{aS bD:ae}{W H:Int}{mask:List Int}{cs:List bw}{ms:List aR}{sts:List aP}(h:oR w ar aS bD W H mask cs ms sts Z):∃(q:ho) (L:List ah) (y:List Nat),q.ar=ar/\q.aS=aS/\q.bD=bD/\W=(q.W:Int)/\H=(q.H:Int)/\L=bG W.toNat mask/\(1<=q.W/\q.W<=8)/\(1<=q.H/\q.H<=8)/\mask.length=q.W*q.H/\0 < L.length/\L.length<=300/\iz W H mask cs ms sts/\nT L ms (L.map (cy sts)) (fY cs) cs/\y.length=L.length/\y.map (fun z=>((z:Nat):Int))=L.map (cy sts)/\gP w.heap.size q L ms (d6 L ms) y (fY cs) Z:=by
 obtain⟨bO,aA,bz,bg,K,aC,dc,aF,aJ,bN,cm,bJ,bL,h⟩:=h;obtain⟨d1,d2,aE,aH,aI⟩:=h.x5;obtain⟨f1,f2,aY,aZ,a0,a1,a2,a3,bC⟩:=h.e6;have hst:=h.b6;have aM:=py hst.lf;have P:=uK hst.lf;have aN:=hst.maps;have aV:=hst.pT;subst d1 d2;rw[Int.toNat_natCast] at P aM aN aV;have hL:∀t ∈ bG K mask,eD t:=fun t ht=>by
  have:=lg (by omega) aI ht;exact⟨by omega,by omega,this.2.2.2.2⟩
 have a6:(bG K mask).length<=300:=by
  have h1:=ny K mask;have ab:K*aC<=8*8:=Nat.mul_le_mul aE.2 aH.2;omega
 have hnd:=nt (pF (by omega) mask _:(bG K mask).Pairwise c3);have ak:0 < (bG K mask).length:=by
  cases av:bG K mask with
  | nil=>rw[av] at P;simp[gc] at P
  | cons a bv=>simp
 obtain⟨gt,dx,bB,bl,_,_,_,bK⟩:=dF h.own ak;obtain⟨cD,eh,bA,bk,_,_,_,bH⟩:=dF h.at_ ak;obtain⟨bs,k,bt,bu⟩:=h.sep;obtain⟨y,aW,bm,bp⟩:=h.t8.c8;have a7:=Ad hnd aV aW bp;have T:=h.cj;have be:=h.own;have a4:=h.at_;have bi:=h.t8.cd;subst bl bk;have bj:gt≠cD:=fun e=>by
  have h1:=bt gt rfl;have ab:=bu cD rfl;omega
 refine⟨⟨ar,aA,bz,bg,K,aC,dc,cs.length,bN,cm,cD,eh,aF,gt,dx,aJ,aS,bD⟩,bG K mask,y,rfl,rfl,rfl,rfl,rfl,by rw[Int.toNat_natCast],aE,aH,aI,ak,a6,hst,⟨hnd,hL,by omega,aN,by rw[gM],fun e=>rm aM e⟩,aW,a7, ?_⟩;exact⟨⟨h.cb.il T.bT f1 f2,T.num.heap (h.cb.bT bz T.num.lt aY aZ),T.d9.heap (h.cb.bT bg T.d9.lt a0 a1)⟩,bi,rE h.cb h.map h.lw h.pw (by decide),rE h.cb a4 h.lw h.pw (by decide),rE h.cb be h.lw h.pw (by decide),bm,bj,bs,a2,a3⟩
end
end Go.Proofs.YteaeipgfjmnecaaGreatDoor

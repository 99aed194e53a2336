/- Lemmas; each says its own conditions. -/
import Derived.Test.YteaeipgfjmnecaaGreatDoorK02
import Derived.Sort.Grow
import Derived.Deep.DeepCutAuto
import Derived.StillTailTactics
import Derived.Shelf.SlSortCmp.WholeK
import Derived.Ground.SlsfProg
import Derived.Test.YteaeipgfjmnecaaGreatDoorProg
import Derived.Shelf.SlSortCmp.NoneTotal
import Derived.Maps.OwnSet
import Derived.DeepKeys4
import Derived.StillTail
import Derived.Carry
open Array renaming getD_eq_getD_getElem?->li,getElem?_eq_getElem->r7,getElem?_eq_some_iff->hb,getElem?_modify->wh,getElem?_replicate->mq,getElem?_setIfInBounds->r8,getElem?_setIfInBounds_ne->nD,getElem?_toList->wi,replicate->eA
open Bool renaming and_eq_true->cu,false->Q,false_eq_true->p9,not_eq_true'->lj,or_eq_true->gJ,true->S
open Classical renaming not_forall->wj,not_not->wk
open Decidable renaming decide->au
open Go renaming Calls->bB,Oper->de,TypeId->dK,Value->ae,World->ac,getD_set_true->ix,heap_alloc_new->aQ,undef->U
open Go.Act renaming put->a6
open Go.Code renaming region->j1
open Go.Instr renaming index->hg,lookup->e2
open Go.IntKind renaming i64->b7
open Go.IntWalk renaming i64_in->ca
open Go.Region renaming Mode->se,ready->fS,waitsFor->eB,wanted->eP
open Go.World renaming block_lt_of_cell?->iS,cell?_of_block->ws,drewN->oD
open Go.World.ownsRow renaming kept->qh
open Int renaming tdiv_eq_ediv_of_nonneg->nH
open Go.IntKind renaming i64->o
open List renaming all_eq_true->dM,contains_iff_mem->j3,getD_eq_getElem?_getD->cf,getElem?_append_left->hS,getElem?_cons_succ->cO,getElem?_eq_getElem->bb,getElem?_eq_none->qk,getElem?_eq_some_iff->bM,getElem?_of_mem->fz,getElem?_take_of_lt->wy,getElem?_toArray->cP,length_append->gL,length_cons->fJ,length_filter_le->wz,length_pos_of_mem->qm,mem_append->js,mem_cons->dC,mem_of_getElem?->cH,mem_range->fl,range->c4,range_succ->lx,replicate->f0
open Nat renaming beq->f4,zero_add->fT
open Go.Obj renaming cells->Y
open Option renaming none->F,some->D
open Option.some renaming inj->cn
open Go.Proofs.Tryz renaming prog->aj
open Go.Value renaming agg->aq,bool->aa,func->eO,int->B,pointer->ad,slice->O
namespace Go.Proofs.YteaeipgfjmnecaaGreatDoor
set_option linter.unusedSimpArgs false
set_option linter.unusedVariables false
set_option maxHeartbeats 12800000
section
set_option maxRecDepth 100000
open Go.RowKit
variable {w Z:ac}
theorem lI(x y:Int)(w:ac):
  bB aj 24 #[B o x, B o y] w fun e Z=>e= .returned (B o (cG x y))/\w=Z:=by
 by_cases h1:x < y
 ·have e:cG x y= -1:=by simp[cG,h1]
  rw[e];clear e;go_in;go_wp2;go_ret;exact⟨rfl,rfl⟩
 by_cases ab:y < x
 ·have e:cG x y=1:=by simp[cG,h1,ab]
  rw[e];clear e;go_in;go_wp2;go_ret;exact⟨rfl,rfl⟩
 have e:cG x y=0:=by simp[cG,h1,ab]
 rw[e];clear e;go_in;go_wp2;go_ret;exact⟨rfl,rfl⟩
def jc:List Int->Int
 | []=>0
 | a::l=>eZ a (jc l)
theorem BD{l:List Int}{k:Nat}{z:Int}(h:l[k]? =D z):jc (l.drop k)=eZ z (jc (l.drop (k+1))):=by
 obtain⟨h1,rfl⟩:=bM.1 h;rw[List.drop_eq_getElem_cons h1];rfl
theorem om(g n c:Nat)(r:List Int)(w:ac)(h:Rd w 1 (D ⟨g,0,F⟩) n (bF r))(hn:n<=1000):
  bB aj 54 #[O (D ⟨g,0,F⟩) n c] w fun e Z=>e= .returned (B o (jc r))/\w=Z:=by
 have ax:=R h.k5;obtain⟨G,E⟩:=ai (jc r);rw[<-E];have ay:=R E;clear E;go_in;go_wp2;go_loopw [8] (fun i wr=>∃k:Nat,k<=n/\i= B o k/\Hid (G=jc (r.drop k))/\w=wr) (fun i _=>n-(intOf i).toNat)
 case atStart=>exact⟨0,by omega,rfl,R (by rw[List.drop_zero];exact ay.out),rfl⟩
 obtain⟨k,am,rfl,an,rfl⟩:=hrel;by_cases aF:k < n
 ·obtain⟨b,aK,z,hA,aH,aI,aE⟩:=h.int aF
  cases hA
  rw[fT] at aE;have al:=BD aI;have ak:=R (an.out.trans al);clear al aI;by_cases ag:z=0
  ·subst ag
   have K:G=jc (r.drop (k+1)):=by rw[ak.out];simp[eZ]
   have az:=R K;clear K;go_wp2;go_roundw
   case rel=>exact⟨k+1,by omega,by go_num,az,trivial⟩
   case measure=>simp[intOf];omega
  have K:G=z:=by rw[ak.out];simp[eZ,ag]
  have aJ:(z !=0)=S:=by simpa using ag
  subst K;go_wp2;go_ret;exact⟨rfl,rfl⟩
 obtain rfl:k=n:=by omega
 have h0:G=0:=by
  rw[an.out,List.drop_of_length_le (by rw[ax.out];exact ce)];rfl
 subst h0;go_wp2;go_ret;exact⟨rfl,rfl⟩
def dz(w Z:ac):Prop:=∃q os,Z=Go.Sort.grow (w.drewN q) os
theorem dz.refl(w:ac):dz w w:=⟨0,#[],by simp[Go.Sort.grow,oD]⟩
theorem dz.alloc(h:dz w Z)(af:Obj):dz w (Z.alloc af):=by
 obtain⟨q,os,rfl⟩:=h;exact⟨q,os++ #[af],by rw[Go.Sort.alloc_eq_grow,Go.Sort.grow_grow]⟩
theorem dz.drewN(h:dz w Z)(n:Nat):dz w (Z.drewN n):=by
 obtain⟨q,os,rfl⟩:=h;exact⟨q+n,os,by simp[Go.Sort.grow,oD,Nat.add_assoc]⟩
theorem dz.drew(h:dz w Z):dz w Z.drew:=h.drewN 1
theorem dz.trans{a b c:ac}(h:dz a b)(g:dz b c):dz a c:=by
 obtain⟨q,os,rfl⟩:=h;obtain⟨p,ps,rfl⟩:=g;exact⟨q+p,os++ps,by simp[Go.Sort.grow,oD,Nat.add_assoc,Array.append_assoc]⟩
theorem dz.below(h:dz w Z):Below w.heap.size w Z:=by
 obtain⟨q,os,rfl⟩:=h;exact⟨rfl,rfl,rfl,by simp[Go.Sort.grow,oD],fun k am=>by simp[Go.Sort.grow,oD,Array.getElem?_append,am]⟩
theorem uQ(a:Int):eZ a 0=a:=by unfold eZ;split <;> simp_all
theorem rH(a b:Int):jc [a,b]=eZ a b:=by simp[jc,uQ]
theorem BA(a b c:Int):jc [a,b,c]=eZ a (eZ b c):=by simp[jc,uQ]
theorem oc(w:ac)(r:List Int)(n:Nat)(hn:r.length=n):Rd (w.alloc (Y (bF r).toArray 3)) 1 (D ⟨w.heap.size,0,F⟩) n (bF r):=
 ⟨by simp[hn],fun _=>⟨w.heap.size,0,rfl,by simp,fun j u aG=>by rw[fT,aB (aQ w _) j];simpa using aG⟩⟩
theorem sW(a b c d:Int)(w:ac):
  bB aj 101 #[bu a b,bu c d] w fun e Z=>e= .returned (B o (gy a b c d))/\dz w Z:=by
 have k0:=aQ w (Y #[B o a, B o b] 40);have ah:=aW k0 (Y #[B o c, B o d] 40);have L:=aQ (w.alloc (Y #[B o a, B o b] 40)) (Y #[B o c, B o d] 40);have P:dz w ((w.alloc (Y #[B o a, B o b] 40)).alloc (Y #[B o c, B o d] 40)):=((dz.refl w).alloc _).alloc _;have aI:(w.alloc (Y #[B o a, B o b] 40)).heap.size=w.heap.size+1:=by simp
 rw[aI] at L;have A:=fun(s:ac)=>om s.heap.size 2 2 [cG a c,cG b d] (s.alloc (Y #[B o (cG a c), B o (cG b d)] 3)).drew (oc s [cG a c,cG b d] 2 rfl).drew (by decide);rw[rH] at A;have ap:eZ (cG a c) (cG b d)=gy a b c d:=rfl;rw[ap] at A;obtain⟨G,E⟩:=ai (gy a b c d);rw[<-E] at A |-;have M:=fun(s:ac)=>lI a c s;have N:=fun(s:ac)=>lI b d s;obtain⟨x,T⟩:=ai (cG a c);obtain⟨y,V⟩:=ai (cG b d);rw[<-T] at M;rw[<-V] at N;simp only[<-T,<-V] at A;obtain⟨aw,ar,av⟩:=cq A M N;clear A M N T V E ap aI;go_in;go_upto_region 1 with fail
 generalize (w.alloc (Y #[B o a, B o b] 40)).alloc (Y #[B o c, B o d] 40)=w2 at ah L P |-;obtain⟨a0,ao⟩:=d7 ah;obtain⟨b0,b1⟩:=d7 L;have aC:w2.drew.cell? ⟨w.heap.size,0,F⟩=D (B o a)/\w2.drew.cell? ⟨w.heap.size,1,F⟩=D (B o b)/\w2.drew.cell? ⟨w.heap.size+1,0,F⟩=D (B o c)/\w2.drew.cell? ⟨w.heap.size+1,1,F⟩=D (B o d)/\dz w w2.drew:=⟨a0,ao,b0,b1,P.drew⟩;clear k0 ah L a0 ao b0 b1 P
 go_region_held3 (fun Z=>Z.cell? ⟨w.heap.size,0,F⟩=D (B o a)/\Z.cell? ⟨w.heap.size,1,F⟩=D (B o b)/\Z.cell? ⟨w.heap.size+1,0,F⟩=D (B o c)/\Z.cell? ⟨w.heap.size+1,1,F⟩=D (B o d)/\dz w Z)
  (first
   | with_reducible exact aC
   | with_reducible assumption
   | (go_split_ands;exact⟨aD ‹_› _,aD ‹_› _,aD ‹_› _,aD ‹_› _,dz.alloc ‹_› _⟩))
  (first
   | ((with_reducible refine(ar.out _).mono ?_);rintro e wc ⟨I,J⟩;subst I;subst J)
   | ((with_reducible refine(av.out _).mono ?_);rintro e wc ⟨I,J⟩;subst I;subst J)
   | ((with_reducible refine(aw.out _).mono ?_);rintro e wc ⟨I,J⟩;subst I;subst J))
 rename_i aA
 go_wp2;go_ret;exact⟨rfl,aA.2.2.2.2⟩
end
section
set_option maxRecDepth 100000
open Go.RowKit
theorem c9{w Z:ac}{az b i:Nat}{v:ae}(h:w.cell? ⟨b,i,F⟩=D v)(aE:Below az w Z)(a4:b < az):Z.cell? ⟨b,i,F⟩=D v:=(aE.cell (p:=⟨b,i,F⟩) a4).trans h
def bn(l:List ah):List ae:=l.flatMap fun t=> [B o t.1, B o t.2.1, B o t.2.2]
theorem jl(l m:List ah):bn (l++m)=bn l++bn m:=by simp[bn]
theorem iw(l:List ah):(bn l).length=l.length*3:=by
 induction l with
 | nil=>rfl
 | cons t l M=>simp[bn] at M |-;omega
theorem CZ(x y k:Int):bn [(x,y,k)]= [B o x, B o y, B o k]:=rfl
theorem jX(x y k:Int):∀u ∈ [Value.int o x, B o y, B o k],u.oneCell'=S:=by
 intro u aK;simp only[dC,List.not_mem_nil,or_false] at aK;rcases aK with rfl | rfl | rfl <;> rfl
theorem jm:(Tryz.prog.info? 53).map (fun i=>(i.zero,i.size,i.bytes))=D (D (aq #[B o 0, B o 0, B o 0]),3,24):=by kernel_rfl
def kY(g s:Int)(i j c:Nat):List ah:=(c4 c).map fun(k:Nat)=>(g-1+i,s-1+j,(k:Int))
def k9(g s:Int)(i b:Nat):List ah:=(c4 b).flatMap fun j=>kY g s i j 4
def fF(g s:Int)(a b c:Nat):List ah:=(c4 a).flatMap (fun i=>k9 g s i 3)++k9 g s a b++kY g s a b c
theorem AS(g s:Int)(a b c:Nat):fF g s a b (c+1)=fF g s a b c++ [(g-1+a,s-1+b,(c:Int))]:=by
 simp[fF,kY,lx]
theorem AR(g s:Int)(a b:Nat):fF g s a (b+1) 0=fF g s a b 4:=by
 simp[fF,k9,kY,lx]
theorem AQ(g s:Int)(a:Nat):fF g s (a+1) 0 0=fF g s a 3 0:=by
 simp[fF,k9,kY,lx]
theorem uI(e:aO):fF (e.1.tdiv 2) (e.2.1.tdiv 2) 3 0 0=jL e:=by
 have a0:∀z:Int,z-1+((0:Nat):Int)=z-1:=fun z=>by omega
 have ao:∀z:Int,z-1+((1:Nat):Int)=z:=fun z=>by omega
 have a2:∀z:Int,z-1+((2:Nat):Int)=z+1:=fun z=>by omega
 simp[fF,k9,kY,jL,pV,lx,a0,ao,a2];omega
theorem uJ(g s:Int)(a b c:Nat):(fF g s a b c).length=12*a+4*b+c:=by
 have h1:∀i j c,(kY g s i j c).length=c:=fun i j c=>by simp[kY]
 have ab:∀i b,(k9 g s i b).length=4*b:=by
  intro i b
  induction b with
  | zero=>rfl
  | succ b M=>
   unfold k9 at M |-;rw[lx,List.flatMap_append,gL,M];simp[h1];omega
 have ag:∀a,((c4 a).flatMap fun i=>k9 g s i 3).length=12*a:=by
  intro a
  induction a with
  | zero=>rfl
  | succ a M=>
   rw[lx,List.flatMap_append,gL,M];simp[ab];omega
 simp[fF,h1,ab,ag];omega
theorem AU(aA:Nat)(W H:Nat)(e:aO)(w:ac)(h0:w.cell? ⟨aA,0,F⟩=D (B o W))(h1:w.cell? ⟨aA,1,F⟩=D (B o H))(hW:W<=8)(a1:H<=8)(J:jK W H e=Q):
  bB aj 114 #[ad (D ⟨aA,0,F⟩),bS e] w fun r Z=>r= .returned (O F 0 0)/\Below w.heap.size w Z:=by
 obtain⟨ap,ak,A,E⟩:=e;have bg:=aQ w (Y #[B o ap, B o ak, B o A, B o E] 42);obtain⟨c1,c2⟩:=d7 bg;have a0:=aD h0 (Y #[B o ap, B o ak, B o A, B o E] 42);have ao:=aD h1 (Y #[B o ap, B o ak, B o A, B o E] 42);have L:=aV w (Y #[B o ap, B o ak, B o A, B o E] 42);have a7:b7.wrap (2*(W:Int))=2*(W:Int):=ca _ (by omega);have a9:b7.wrap (2*(H:Int))=2*(H:Int):=ca _ (by omega);simp only[jK,Bool.not_eq_false',gJ,decide_eq_true_eq] at J;clear bg h0 h1;by_cases aZ:ap < 0
 ·have d1:au (ap < 0)=S:=decide_eq_true aZ
  clear J;go_in;go_upto_region 1 with fail
  go_quiet (fail)
  go_wp2;go_ret;exact⟨rfl,below_drewN L _⟩
 have d1:au (ap < 0)=Q:=decide_eq_false aZ;by_cases bm:ak < -1
 ·have d2:au (ak < -1)=S:=decide_eq_true bm
  clear J;go_in;go_upto_region 1 with fail
  go_quiet (fail)
  go_wp2;go_ret;exact⟨rfl,below_drewN L _⟩
 have d2:au (ak < -1)=Q:=decide_eq_false bm;by_cases an:2*(W:Int) < ap
 ·have aB:au (2*(W:Int) < ap)=S:=decide_eq_true an
  clear J;go_in;go_upto_region 1 with fail
  go_quiet (fail)
  go_wp2;go_ret;exact⟨rfl,below_drewN L _⟩
 have aB:au (2*(W:Int) < ap)=Q:=decide_eq_false an;have ay:2*(H:Int) < ak:=by omega
 have aW:au (2*(H:Int) < ak)=S:=decide_eq_true ay;clear J;go_in;go_upto_region 1 with fail
 go_quiet (fail)
 go_wp2;go_ret;exact⟨rfl,below_drewN L _⟩
theorem AV(aA:Nat)(W H:Nat)(e:aO)(w:ac)(h0:w.cell? ⟨aA,0,F⟩=D (B o W))(h1:w.cell? ⟨aA,1,F⟩=D (B o H))(hW:W<=8)(a1:H<=8)(J:jK W H e=S):
  bB aj 114 #[ad (D ⟨aA,0,F⟩),bS e] w fun r Z=>∃v,r= .returned v/\Z.ownsRow w.heap.size 53 3 v (jL e).length (bn (jL e))/\Below w.heap.size w Z:=by
 have hall:=uI e;have al:=uJ (e.1.tdiv 2) (e.2.1.tdiv 2);obtain⟨ap,ak,A,E⟩:=e;have bg:=aQ w (Y #[B o ap, B o ak, B o A, B o E] 42);obtain⟨c1,c2⟩:=d7 bg;have a0:=aD h0 (Y #[B o ap, B o ak, B o A, B o E] 42);have ao:=aD h1 (Y #[B o ap, B o ak, B o A, B o E] 42);have L:=aV w (Y #[B o ap, B o ak, B o A, B o E] 42);have a7:b7.wrap (2*(W:Int))=2*(W:Int):=ca _ (by omega);have a9:b7.wrap (2*(H:Int))=2*(H:Int):=ca _ (by omega);simp only[jK,lj,Bool.or_eq_false_iff,decide_eq_false_iff_not] at J;obtain⟨⟨⟨aZ,bm⟩,an⟩,ay⟩:=J;have d1:au (ap < 0)=Q:=decide_eq_false aZ;have d2:au (ak < -1)=Q:=decide_eq_false bm
 have aB:au (2*(W:Int) < ap)=Q:=decide_eq_false an;have aW:au (2*(H:Int) < ak)=Q:=decide_eq_false ay;have aP:=R bg;simp only at hall al;obtain⟨g,N⟩:=ai (ap.tdiv 2);obtain⟨s,P⟩:=ai (ak.tdiv 2);have bc:0<=g/\g<=8:=by rw[N,nH (by omega)];omega
 have bd: -1<=s/\s<=8:=by
  rw[P];by_cases h:0<=ak
  ·rw[nH h];omega
  have:ak= -1:=by omega
  subst this;decide
 rw[<-N,<-P] at hall al;obtain⟨aN,aR⟩:=aY hall al;have bp:b7.wrap (ap.tdiv 2)=g:=by rw[<-N];exact ca _ (by omega)
 have bq:b7.wrap (ak.tdiv 2)=s:=by rw[<-P];exact ca _ (by omega)
 have br:ap.tdiv 2=g:=N.symm;have bs:ak.tdiv 2=s:=P.symm;clear hall al bg h0 h1 N P;go_in;go_upto_region 1 with fail
 go_quiet (fail)
 go_wp2_with fail
 have am:Below w.heap.size w ((w.alloc (Y #[B o ap, B o ak, B o A, B o E] 42)).drewN nq):=below_drewN L _;have b1:((w.alloc (Y #[B o ap, B o ak, B o A, B o E] 42)).drewN nq).cell? ⟨w.heap.size,0,F⟩=D (B o ap):=c1;have aC:((w.alloc (Y #[B o ap, B o ak, B o A, B o E] 42)).drewN nq).cell? ⟨w.heap.size,1,F⟩=D (B o ak):=c2;have aI:w.heap.size < ((w.alloc (Y #[B o ap, B o ak, B o A, B o E] 42)).drewN nq).heap.size:=by
  show w.heap.size < (w.alloc _).heap.size
  simp
 clear c1 c2 a0 ao L aP;generalize (w.alloc (Y #[B o ap, B o ak, B o A, B o E] 42)).drewN nq=w0 at am b1 aC aI |-;go_loopw [5,6] (fun v x wr=>∃a:Nat,a<=3/\x= B o (g-1+a)/\wr.ownsRow w0.heap.size 53 3 v (fF g s a 0 0).length (bn (fF g s a 0 0))/\Below w0.heap.size w0 wr) (fun _ x _=>(g+2-intOf x).toNat)
 case atStart=>exact⟨0,by omega,by go_num,World.ownsRow_nil _ _ _ _,aX⟩
 obtain⟨a,be,rfl,I,G⟩:=hrel;have bt:=c9 b1 G aI;by_cases bf:a < 3
 ·have aF:g-1+(a:Int)<=g+1:=by omega
  have ba:=c9 aC G aI;have aL:b7.wrap (g-1+(a:Int)+1)=g-1+((a+1:Nat):Int):=by rw[ca _ (by omega)];omega
  obtain⟨V,aw⟩:=ai (g-1+(a:Int));rw[<-aw] at aF aL |-;have ar:=R aw;have bl: -1<=V/\V<=9:=by omega
  have T:g-1+((a+1:Nat):Int)=V+1:=by omega
  rw[T] at aL;clear aw T
  go_wp2_with fail
  go_loopw [5,7] (fun v y wr=>∃b:Nat,b<=3/\y= B o (s-1+b)/\wr.ownsRow w0.heap.size 53 3 v (fF g s a b 0).length (bn (fF g s a b 0))/\Below w0.heap.size w0 wr) (fun _ y _=>(s+2-intOf y).toNat)
  case atStart=>exact⟨0,by omega,by go_num,I,G⟩
  obtain⟨b,aE,rfl,I,G⟩:=hrel;have ba:=c9 aC G aI;by_cases bh:b < 3
  ·have aG:s-1+(b:Int)<=s+1:=by omega
   have aM:b7.wrap (s-1+(b:Int)+1)=s-1+((b+1:Nat):Int):=by rw[ca _ (by omega)];omega
   obtain⟨af,ax⟩:=ai (s-1+(b:Int));rw[<-ax] at aG aM |-;have av:=R ax;have bo: -2<=af/\af<=9:=by omega
   have T:s-1+((b+1:Nat):Int)=af+1:=by omega
   rw[T] at aM;clear ax T
   go_wp2_with fail
   go_loopw [5,71] (fun v k wr=>∃c:Nat,c<=4/\k= B o c/\wr.ownsRow w0.heap.size 53 3 v (fF g s a b c).length (bn (fF g s a b c))/\Below w0.heap.size w0 wr) (fun _ k _=>4-(intOf k).toNat)
   case atStart=>exact⟨0,by omega,rfl,I,G⟩
   obtain⟨c,hc,rfl,I,G⟩:=hrel;have bk:=aR.out a b c;have hnc:=AS g s a b c;rw[<-ar.out,<-av.out] at hnc;obtain⟨aU,K⟩:=aY hnc I;clear hnc I;by_cases bi:c < 4
   ·have bj:(c:Int) < 4:=by omega
    go_wp2_with (at_builtin;refine i0 Tryz.underlying54 jm rfl (by decide) (by decide) rfl (.tmp 74) (.tmp 79) rfl w0.heap.size _ (fF g s a b c).length (bn (fF g s a b c)) [B o V, B o af, B o c] rfl K.out G.size 1 _ rfl rfl rfl (jX V af c) (by omega) ?_;intro a8 Z a5 a3 _)
    go_roundw
    case rel=>exact⟨c+1,by omega,by go_num,by rw[aU.out,gL,jl];exact a5,G.trans a3⟩
    case measure=>simp[intOf];omega
   obtain rfl:c=4:=by omega
   have aJ:=AR g s a b;have aT:=R aJ;clear aJ;go_wp2;go_roundw
   case rel=>exact⟨b+1,by omega,by have:=av.out;congr 1;omega,by rw[aT.out];exact K.out,G⟩
   case measure=>have:=av.out;simp[intOf];omega
  obtain rfl:b=3:=by omega
  have aG:¬(s-1+((3:Nat):Int)<=s+1):=by omega
  have aH:=AQ g s a;obtain⟨aS,K⟩:=aY aH I;clear aH I;go_wp2;go_roundw
  case rel=>exact⟨a+1,by omega,by have:=ar.out;congr 1;omega,by rw[aS.out];exact K.out,G⟩
  case measure=>have:=ar.out;simp[intOf];omega
 obtain rfl:a=3:=by omega
 have aF:¬(g-1+((3:Nat):Int)<=g+1):=by omega
 have K:=R I;clear I;go_wp2;go_ret;rw[aN.out] at K;exact⟨_,rfl,dn K.out am.size,am.trans (G.mono am.size)⟩
end
section
set_option maxRecDepth 100000
open Go.RowKit
theorem sV(a b c d ao b1 c1 d1:Int)(w:ac):
  bB aj 55 #[aq #[B o a, B o b, B o c, B o d], aq #[B o ao, B o b1, B o c1, B o d1]] w fun e Z=>e= .returned (B o (f9 (a,b,c,d) (ao,b1,c1,d1)))/\dz w Z:=by
 have k0:=aQ w (Y #[B o a, B o b, B o c, B o d] 42);have J:=aW k0 (Y #[B o ao, B o b1, B o c1, B o d1] 42);have s:=aQ (w.alloc (Y #[B o a, B o b, B o c, B o d] 42)) (Y #[B o ao, B o b1, B o c1, B o d1] 42);have E:dz w ((w.alloc (Y #[B o a, B o b, B o c, B o d] 42)).alloc (Y #[B o ao, B o b1, B o c1, B o d1] 42)):=((dz.refl w).alloc _).alloc _;have aI:(w.alloc (Y #[B o a, B o b, B o c, B o d] 42)).heap.size=w.heap.size+1:=by simp
 rw[aI] at s;have k:=fun(i:ac)=>om i.heap.size 2 2 [gy a b ao b1,gy c d c1 d1] (i.alloc (Y #[B o (gy a b ao b1), B o (gy c d c1 d1)] 3)) (oc i [gy a b ao b1,gy c d c1 d1] 2 rfl) (by decide);rw[rH] at k;have L:eZ (gy a b ao b1) (gy c d c1 d1)=f9 (a,b,c,d) (ao,b1,c1,d1):=rfl;rw[L] at k;obtain⟨aw,K⟩:=ai (f9 (a,b,c,d) (ao,b1,c1,d1));rw[<-K] at k |-;have z:=fun(i:ac)=>sW a b ao b1 i;have A:=fun(i:ac)=>sW c d c1 d1 i;obtain⟨x,G⟩:=ai (gy a b ao b1);rw[<-G] at z;obtain⟨y,I⟩:=ai (gy c d c1 d1);rw[<-I] at A;simp only[<-G,<-I] at k;obtain⟨ah,af,ag⟩:=cq k z A;clear k z G A I K L aI;go_in;go_upto_region 1 with fail
 generalize (w.alloc (Y #[B o a, B o b, B o c, B o d] 42)).alloc (Y #[B o ao, B o b1, B o c1, B o d1] 42)=w2 at J s E |-;obtain⟨M,N,P,ap⟩:=dm J;obtain⟨R,T,ab,ar⟩:=dm s;have am:w2.drew.cell? ⟨w.heap.size,0,F⟩=D (B o a)/\w2.drew.cell? ⟨w.heap.size,1,F⟩=D (B o b)/\w2.drew.cell? ⟨w.heap.size,2,F⟩=D (B o c)/\w2.drew.cell? ⟨w.heap.size,3,F⟩=D (B o d)/\w2.drew.cell? ⟨w.heap.size+1,0,F⟩=D (B o ao)/\w2.drew.cell? ⟨w.heap.size+1,1,F⟩=D (B o b1)/\w2.drew.cell? ⟨w.heap.size+1,2,F⟩=D (B o c1)/\w2.drew.cell? ⟨w.heap.size+1,3,F⟩=D (B o d1)/\dz w w2.drew:=⟨M,N,P,ap,R,T,ab,ar,E.drew⟩
 clear k0 J s M N P ap R T ab ar E
 go_region_held3 (fun Z=>Z.cell? ⟨w.heap.size,0,F⟩=D (B o a)/\Z.cell? ⟨w.heap.size,1,F⟩=D (B o b)/\Z.cell? ⟨w.heap.size,2,F⟩=D (B o c)/\Z.cell? ⟨w.heap.size,3,F⟩=D (B o d)/\Z.cell? ⟨w.heap.size+1,0,F⟩=D (B o ao)/\Z.cell? ⟨w.heap.size+1,1,F⟩=D (B o b1)/\Z.cell? ⟨w.heap.size+1,2,F⟩=D (B o c1)/\Z.cell? ⟨w.heap.size+1,3,F⟩=D (B o d1)/\dz w Z)
  (first
   | with_reducible exact am
   | with_reducible assumption
   | (go_split_ands;exact⟨aD ‹_› _,aD ‹_› _,aD ‹_› _,aD ‹_› _,aD ‹_› _,aD ‹_› _,aD ‹_› _,aD ‹_› _,dz.alloc ‹_› _⟩)
   | (go_split_ands;exact⟨V ‹_› g.below,V ‹_› g.below,V ‹_› g.below,V ‹_› g.below,V ‹_› g.below,V ‹_› g.below,V ‹_› g.below,V ‹_› g.below,dz.trans ‹_› g⟩))
  (first
   | ((with_reducible refine(af.out _).mono ?_);rintro e wc ⟨l,g⟩;subst l)
   | ((with_reducible refine(ag.out _).mono ?_);rintro e wc ⟨l,g⟩;subst l)
   | ((with_reducible refine(ah.out _).mono ?_);rintro e wc ⟨l,r⟩;subst l;subst r))
 rename_i al
 go_wp2;go_ret;exact⟨rfl,al.2.2.2.2.2.2.2.2⟩
theorem sX(a b c ao b1 c1:Int)(w:ac):
  bB aj 66 #[aq #[B o a, B o b, B o c], aq #[B o ao, B o b1, B o c1]] w fun e Z=>e= .returned (B o (ga (a,b,c) (ao,b1,c1)))/\dz w Z:=by
 have k0:=aQ w (Y #[B o a, B o b, B o c] 53);have J:=aW k0 (Y #[B o ao, B o b1, B o c1] 53);have s:=aQ (w.alloc (Y #[B o a, B o b, B o c] 53)) (Y #[B o ao, B o b1, B o c1] 53);have E:dz w ((w.alloc (Y #[B o a, B o b, B o c] 53)).alloc (Y #[B o ao, B o b1, B o c1] 53)):=((dz.refl w).alloc _).alloc _;have aI:(w.alloc (Y #[B o a, B o b, B o c] 53)).heap.size=w.heap.size+1:=by simp
 rw[aI] at s;have k:=fun(i:ac)=>om i.heap.size 3 3 [cG b b1,cG a ao,cG c c1] (i.alloc (Y #[B o (cG b b1), B o (cG a ao), B o (cG c c1)] 3)).drew (oc i [cG b b1,cG a ao,cG c c1] 3 rfl).drew (by decide);rw[BA] at k;have L:eZ (cG b b1) (eZ (cG a ao) (cG c c1))=ga (a,b,c) (ao,b1,c1):=rfl;rw[L] at k;obtain⟨aw,K⟩:=ai (ga (a,b,c) (ao,b1,c1));rw[<-K] at k |-;have z:=fun(i:ac)=>lI b b1 i;have A:=fun(i:ac)=>lI a ao i;have ak:=fun(i:ac)=>lI c c1 i;obtain⟨x,G⟩:=ai (cG b b1);rw[<-G] at z;obtain⟨y,I⟩:=ai (cG a ao);rw[<-I] at A;obtain⟨v,an⟩:=ai (cG c c1);rw[<-an] at ak;simp only[<-G,<-I,<-an] at k;obtain⟨ah,af,ag,av⟩:=df k z A ak;clear k z G A I ak an K L aI
 go_in;go_upto_region 1 with fail
 generalize (w.alloc (Y #[B o a, B o b, B o c] 53)).alloc (Y #[B o ao, B o b1, B o c1] 53)=w2 at J s E |-;obtain⟨M,N,P⟩:=dl J;obtain⟨R,T,ab⟩:=dl s;have am:w2.drew.cell? ⟨w.heap.size,0,F⟩=D (B o a)/\w2.drew.cell? ⟨w.heap.size,1,F⟩=D (B o b)/\w2.drew.cell? ⟨w.heap.size,2,F⟩=D (B o c)/\w2.drew.cell? ⟨w.heap.size+1,0,F⟩=D (B o ao)/\w2.drew.cell? ⟨w.heap.size+1,1,F⟩=D (B o b1)/\w2.drew.cell? ⟨w.heap.size+1,2,F⟩=D (B o c1)/\dz w w2.drew:=⟨M,N,P,R,T,ab,E.drew⟩;clear k0 J s M N P R T ab E
 go_region_held3 (fun Z=>Z.cell? ⟨w.heap.size,0,F⟩=D (B o a)/\Z.cell? ⟨w.heap.size,1,F⟩=D (B o b)/\Z.cell? ⟨w.heap.size,2,F⟩=D (B o c)/\Z.cell? ⟨w.heap.size+1,0,F⟩=D (B o ao)/\Z.cell? ⟨w.heap.size+1,1,F⟩=D (B o b1)/\Z.cell? ⟨w.heap.size+1,2,F⟩=D (B o c1)/\dz w Z)
  (first
   | with_reducible exact am
   | with_reducible assumption
   | (go_split_ands;exact⟨aD ‹_› _,aD ‹_› _,aD ‹_› _,aD ‹_› _,aD ‹_› _,aD ‹_› _,dz.alloc ‹_› _⟩)
   | (go_split_ands;exact⟨V ‹_› g.below,V ‹_› g.below,V ‹_› g.below,V ‹_› g.below,V ‹_› g.below,V ‹_› g.below,dz.trans ‹_› g⟩))
  (first
   | ((with_reducible refine(af.out _).mono ?_);rintro e wc ⟨l,r⟩;subst l;subst r)
   | ((with_reducible refine(ag.out _).mono ?_);rintro e wc ⟨l,r⟩;subst l;subst r)
   | ((with_reducible refine(av.out _).mono ?_);rintro e wc ⟨l,r⟩;subst l;subst r)
   | ((with_reducible refine(ah.out _).mono ?_);rintro e wc ⟨l,r⟩;subst l;subst r))
 rename_i al
 go_wp2;go_ret;exact⟨rfl,al.2.2.2.2.2.2⟩
end
section
open Go.Shelf
def Cx:Go.Shelf.Ren:=⟨fun | 6=>108 | 15=>105 | 14=>133 | 28=>130 | 29=>131 | 20=>147 | 21=>148 | 22=>149 | 23=>150 | 24=>151 | 25=>152 | 26=>153 | 27=>154 | 46=>159 | 47=>143 | 48=>144 | 49=>160 | 50=>161 | 57=>163 | n=>n,fun | 22=>54 | 24=>53 | 25=>127 | 3=>3 | 39=>162 | 0=>0 | 53=>185 | 55=>187 | 4=>4 | 46=>179 | 45=>178 | 50=>147 | 5=>5 | 9=>9 | 66=>195 | 70=>199 | 76=>208 | 77=>209 | n=>n,fun | n=>n⟩
theorem vD:Go.Proofs.SlLaysF0.n6 aj Cx:={
 mixed:=by kernel_rfl
 f6:=⟨Tryz.f108.name,by decide,Tryz.func108.trans (congrArg D (by kernel_rfl))⟩
 f14:=⟨Tryz.f133.name,by decide,Tryz.func133.trans (congrArg D (by kernel_rfl))⟩
 f15:=Tryz.func105.trans (congrArg D (by kernel_rfl))
 f20:=⟨Tryz.f147.name,by decide,Tryz.func147.trans (congrArg D (by kernel_rfl))⟩
 f21:=⟨Tryz.f148.name,by decide,Tryz.func148.trans (congrArg D (by kernel_rfl))⟩
 f22:=⟨Tryz.f149.name,by decide,Tryz.func149.trans (congrArg D (by kernel_rfl))⟩
 f23:=⟨Tryz.f150.name,by decide,Tryz.func150.trans (congrArg D (by kernel_rfl))⟩
 f24:=⟨Tryz.f151.name,by decide,Tryz.func151.trans (congrArg D (by kernel_rfl))⟩
 f25:=⟨Tryz.f152.name,by decide,Tryz.func152.trans (congrArg D (by kernel_rfl))⟩
 f26:=⟨Tryz.f153.name,by decide,Tryz.func153.trans (congrArg D (by kernel_rfl))⟩
 f27:=⟨Tryz.f154.name,by decide,Tryz.func154.trans (congrArg D (by kernel_rfl))⟩
 f28:=Tryz.func130.trans (congrArg D (by kernel_rfl))
 f29:=Tryz.func131.trans (congrArg D (by kernel_rfl))
 f46:=⟨Tryz.f159.name,by decide,Tryz.func159.trans (congrArg D (by kernel_rfl))⟩
 f47:=Tryz.func143.trans (congrArg D (by kernel_rfl))
 f48:=Tryz.func144.trans (congrArg D (by kernel_rfl))
 f49:=⟨Tryz.f160.name,by decide,Tryz.func160.trans (congrArg D (by kernel_rfl))⟩
 f50:=⟨Tryz.f161.name,by decide,Tryz.func161.trans (congrArg D (by kernel_rfl))⟩
 f57:=⟨Tryz.f163.name,by decide,Tryz.func163.trans (congrArg D (by kernel_rfl))⟩
 t0:=Tryz.underlying0
 a0:=Tryz.isAgg0
 z0:=Tryz.sizeOf0
 v0:=Tryz.zeroValue0
 t3:=Tryz.underlying3
 a3:=Tryz.isAgg3
 z3:=Tryz.sizeOf3
 v3:=Tryz.zeroValue3
 t4:=Tryz.underlying4
 a4:=Tryz.isAgg4
 z4:=Tryz.sizeOf4
 v4:=Tryz.zeroValue4
 t5:=Tryz.underlying5
 a5:=Tryz.isAgg5
 z5:=Tryz.sizeOf5
 v5:=Tryz.zeroValue5
 t9:=Tryz.underlying9
 a9:=Tryz.isAgg9
 z9:=Tryz.sizeOf9
 v9:=Tryz.zeroValue9
 t22:=Tryz.underlying54
 a22:=Tryz.isAgg54
 z22:=Tryz.sizeOf54
 v22:=Tryz.zeroValue54
 t25:=Tryz.underlying127
 a25:=Tryz.isAgg127
 z25:=Tryz.sizeOf127
 v25:=Tryz.zeroValue127
 t39:=Tryz.underlying162
 a39:=Tryz.isAgg162
 z39:=Tryz.sizeOf162
 v39:=Tryz.zeroValue162
 t45:=Tryz.underlying178
 a45:=Tryz.isAgg178
 z45:=Tryz.sizeOf178
 v45:=Tryz.zeroValue178
 t46:=Tryz.underlying179
 a46:=Tryz.isAgg179
 z46:=Tryz.sizeOf179
 v46:=Tryz.zeroValue179
 t50:=Tryz.underlying147
 a50:=Tryz.isAgg147
 z50:=Tryz.sizeOf147
 v50:=Tryz.zeroValue147
 t53:=Tryz.underlying185
 a53:=Tryz.isAgg185
 z53:=Tryz.sizeOf185
 v53:=Tryz.zeroValue185
 t55:=Tryz.underlying187
 a55:=Tryz.isAgg187
 z55:=Tryz.sizeOf187
 v55:=Tryz.zeroValue187
 t66:=Tryz.underlying195
 a66:=Tryz.isAgg195
 z66:=Tryz.sizeOf195
 v66:=Tryz.zeroValue195
 t70:=Tryz.underlying199
 a70:=Tryz.isAgg199
 z70:=Tryz.sizeOf199
 v70:=Tryz.zeroValue199
 t76:=Tryz.underlying208
 a76:=Tryz.isAgg208
 z76:=Tryz.sizeOf208
 v76:=Tryz.zeroValue208
 t77:=Tryz.underlying209
 a77:=Tryz.isAgg209
 z77:=Tryz.sizeOf209
 v77:=Tryz.zeroValue209}
end
section
open Go.RowKit Go.Sort Go.Shelf
theorem rf{r:Type}[Inhabited r](enc:r->ae){w:ac}{g n:Nat}{os:Array Obj}{s:Array ae}{e:dK}{L:Nat×Nat}(d:Array r)(E:w.heap[g]? =D (.cells s e L)):
  (sortWorld enc w g 0 n d os).heap[g]? =D (Y (putCells enc 0 d s) e L):=by
 unfold sortWorld;have I:g < w.heap.size:=(hb.1 E).1;rw[heap_grow_old _ _ (by simpa using I)];simp[putRow,mapBlock,Sort.ahead,wh,E,onCells]
theorem o7{r:Type}[Inhabited r](enc:r->ae)(w:ac)(g n:Nat)(os:Array Obj)(d:Array r):w.grownBy (sortWorld enc w g 0 n d os) (D g):=by
 unfold sortWorld;refine⟨rfl,rfl,rfl,by simp,fun k ai ak=> ?_⟩;rw[heap_grow_old _ _ (by simpa using ai)];have:g≠k:=fun e=>ak (by rw[e]);simp[putRow,mapBlock,Sort.ahead,wh,this]
theorem rg{r:Type}[Inhabited r]{enc:r->ae}{w:ac}{g:Nat}{s:Array ae}{e:dK}{aE:List r}(E:w.heap[g]? =D (.cells s e (0,0)))(ht:s.toList.take aE.length=aE.map enc):Holds enc w g 0 aE.toArray:=by
 intro j A;have N:j < aE.length:=by simpa using A
 refine⟨?_,by simp[World.frozen?,E]⟩;have h1:(s.toList.take aE.length)[j]? =(aE.map enc)[j]? :=by rw[ht]
 rw[wy N] at h1;simp only[World.cell?,E,fT];simp only[Option.isSome_none,p9,if_false];rw[<-wi,h1];simp[N]
theorem rX{r:Type}[Inhabited r](enc:r->ae)(s:Array ae)(jn:Array r)(h:jn.size<=s.size):(putCells enc 0 jn s).toList.take jn.size=jn.toList.map enc:=by
 apply List.ext_getElem?
 intro j;by_cases A:j < jn.size
 ·rw[wy A,wi]
  simp[putCells,A,show j < s.size by omega]
 ·rw[List.getElem?_take_eq_none (by omega),qk (by simp;omega)]
def ko(t:ah):List ae:= [B o t.1, B o t.2.1, B o t.2.2]
theorem ia:∀(l:List ah) (i j:Nat) (t:ah),l[i]? =D t->j < 3->(bn l)[3*i+j]? =(ko t)[j]?
 | [],i,j,t,h,_=>by simp at h
 | a::l,0,j,t,h,A=>by
  simp at h;subst h;simp only[bn,List.flatMap_cons,Nat.mul_zero,fT];rw[hS (by simpa using A)];rfl
 | a::l,i+1,j,t,h,A=>by
  rw[cO] at h;have R:=ia l i j t h A;simp only[bn,List.flatMap_cons] at R |-;rw[List.getElem?_append_right (by simp;omega)];simp only[fJ,List.length_nil];rw[show 3*(i+1)+j-(0+1+1+1)=3*i+j by omega];exact R
theorem tv(l:List ah):flatK ko 3 l.toArray=(bn l).toArray:=by
 apply Array.ext_getElem?
 intro j;by_cases A:j < l.length*3
 ·have M:j / 3 < l.length:=by omega
  have h1:=ia l (j / 3) (j % 3) (l[j / 3]) (bb M) (Nat.mod_lt _ (by decide));rw[show 3*(j / 3)+j % 3=j by omega] at h1;have P:j < (flatK ko 3 l.toArray).size:=by simpa using A
  have ab:=get_flatK ko 3 l.toArray j (by simpa using A);rw[getElem!_pos (flatK ko 3 l.toArray) j P,getElem!_pos l.toArray (j / 3) (by simpa using M)] at ab;rw[r7 P,ab,cP,h1];have ag:j % 3 < 3:=Nat.mod_lt _ (by decide);have az:j % 3=0∨j % 3=1∨j % 3=2:=by omega
  simp only[List.getElem_toArray];rcases az with az | az | az <;> rw[az] <;> rfl
 ·rw[Array.getElem?_eq_none (by simp;omega),cP,qk (by rw[iw];omega)]
theorem vL:SWO (ltOf ga) where
 irrefl x:=decide_eq_false (fun h=>gg _ ((hZ _ _).1 h))
 trans x y z h1 ab:=decide_eq_true ((hZ _ _).2 (nw ((hZ _ _).1 (of_decide_eq_true h1)) ((hZ _ _).1 (of_decide_eq_true ab))))
 ntrans x y z h1 ab:=by
  have ax:¬c3 x y:=fun h=>of_decide_eq_false h1 ((hZ _ _).2 h);have ay:¬c3 y z:=fun h=>of_decide_eq_false ab ((hZ _ _).2 h);refine decide_eq_false fun h=> ?_;have ag:=(hZ _ _).1 h;unfold c3 at*;omega
theorem C5(x y:ah)(h1:ltOf ga x y=Q)(ab:ltOf ga y x=Q):x=y:=by
 rcases r1 x y with h | h | h
 ·exact absurd ((hZ _ _).2 h) (of_decide_eq_false h1)
 ·exact h
 ·exact absurd ((hZ _ _).2 h) (of_decide_eq_false ab)
def gF(l:List ah):List ah:=l.mergeSort fun x y=> !(ltOf ga) y x
theorem mi(l:List ah):(gF l).Perm l:=List.mergeSort_perm _ _
theorem vF{l:List ah}(h:l.Nodup):(gF l).Pairwise c3:=by
 have h1:=List.pairwise_mergeSort (le:=fun x y:ah=> !(ltOf ga) y x) (fun a b c h1 ab=>by
  simp only[lj] at h1 ab |-;exact vL.ntrans _ _ _ ab h1) (fun a b=>by
  by_cases h:ltOf ga b a=S
  ·have:ltOf ga a b=Q:=by
    refine decide_eq_false fun ab=> ?_;exact gg _ (nw ((hZ _ _).1 (of_decide_eq_true h)) ((hZ _ _).1 ab))
   simp[this]
  ·simp[h]) l
 have ab:(gF l).Nodup:=(mi l).nodup_iff.2 h;unfold gF at ab |-;refine(h1.and ab).imp ?_;rintro a b ⟨ag,az⟩;rcases r1 a b with h5 | h5 | h5
 ·exact h5
 ·exact absurd h5 az
 have T:ltOf ga b a=S:=decide_eq_true ((hZ _ _).2 h5);rw[T] at ag;cases ag
theorem xI(w:ac)(bT size:Nat):CmpLays aj 66 #[] ko 3 ga bT 0 size w:=by
 intro m os av _ x y;refine(sX x.1 x.2.1 x.2.2 y.1 y.2.1 y.2.2 _).mono ?_;rintro e Z ⟨rfl,q,ao,h⟩;exact⟨rfl,q,ao,h⟩
theorem zj(w:ac):(isAgg 53).run aj w= .ok S w:=by kernel_rfl
theorem Cq(w:ac):(Go.sizeOf 53).run aj w= .ok 3 w:=by kernel_rfl
theorem vE(g G n K:Nat)(l:List ah)(w:ac)(hn:n=l.length)(al:w.ownsRow K 53 3 (O (D ⟨g,0,F⟩) n G) n (bn l))(E:n<=1000000):
  bB aj 108 #[O (D ⟨g,0,F⟩) n G, eO (.func 66) #[] #[]] w fun e Z=>
   e= .returned (.tuple #[])/\Z.ownsRow K 53 3 (O (D ⟨g,0,F⟩) n G) n (bn (gF l))/\w.grownBy Z (D g):=by
 subst hn;rcases al.2 with ⟨e,_⟩ | ⟨aw,ar,s,e,aK,I,cN,ct,ee,ap⟩
 ·cases e
 cases e
 have V:HoldsK ko 3 w g 0 l.toArray:=by
  unfold HoldsK;rw[tv];refine rg (enc:=id) I ?_;rw[iw,List.map_id];exact ap
 have af:g < w.heap.size:=(hb.1 I).1;have hc:=AnyQ.slices_SortFunc_total vD 3 zj Cq ko (fun _=>rfl) (fun x v am=>jX _ _ _ v am) ga vL 66 #[] g 0 G l.toArray w (enters_of Tryz.func66 (by kernel_rfl) rfl) (xI w g l.toArray.size) V af (by simp;omega) C5;refine hc.mono ?_;rintro e Z ⟨rfl,q,os,rfl⟩;have an:sortWorldK ko 3 w g 0 q (gF l).toArray os=sortWorld id w g 0 q (bn (gF l)).toArray os:=by
  rw[<-tv];rfl
 have J:(gF l).length=l.length:=(mi l).length_eq;have ab:(l.toArray.toList.mergeSort fun x y=> !(ltOf ga) y x)=gF l:=rfl;rw[ab,an];refine⟨rfl,⟨by rw[iw,J], .inr ⟨g,G,_,rfl,aK,rf id _ I,cN,ct,by simp[putCells,ee], ?_⟩⟩,o7 id w g q os _⟩;have:=rX id s (bn (gF l)).toArray (by simp[iw,J];rw[ee];exact Nat.mul_le_mul_right 3 cN);simp only[List.size_toArray,iw,J,List.map_id] at this;exact this
end
section
section
open Go.RowKit Go.Maps
def bj(z:Int):Prop:= -9223372036854775808<=z/\z<=9223372036854775807
theorem nB{z:Int}(h:bj z):(Lit.int o z).wf=S:=by
 unfold bj at h;simp[Lit.wf,IntKind.min,IntKind.max,IntKind.signed,IntKind.bits];omega
theorem vZ:∃d,Tryz.prog.types.size=d+3:=⟨Tryz.prog.types.size-3,by kernel_rfl⟩
theorem rp:laidOutB aj=S:=by kernel_rfl
theorem mV(d:Nat){x:Int}(h:bj x):Tryz.prog.keyLits (d+1) 3 [.int o x]=D [.int o x]:=by
 simp[Program.keyLits,Tryz.underlying3,nB h]
theorem pi:WideMaps.KeyLaw aj 53:=deep_law_laid rp (m:=3) (by omega) (of_decide_eq_true (by kernel_rfl)) (by kernel_rfl) (by kernel_rfl)
theorem ph:WideMaps.KeyLaw aj 42:=deep_law_laid rp (m:=3) (by omega) (of_decide_eq_true (by kernel_rfl)) (by kernel_rfl) (by kernel_rfl)
theorem cZ:Tryz.prog.cellsOf 53=3:=by kernel_rfl
theorem ep:Tryz.prog.cellsOf 3=1:=by kernel_rfl
theorem eW:Tryz.prog.cellsOf 42=4:=by kernel_rfl
theorem dp:Tryz.prog.cellsOf 40=2:=by kernel_rfl
theorem zN:Tryz.prog.keyType 53=S:=by kernel_rfl
theorem zM:Tryz.prog.keyType 42=S:=by kernel_rfl
theorem zK(d:Nat){x y k:Int}(A:bj x)(M:bj y)(al:bj k):Tryz.prog.keyLits (d+2) 53 [.int o x, .int o y, .int o k]=D [.int o x, .int o y, .int o k]:=by
 unfold Program.keyLits;rw[Tryz.underlying53];simp[cZ,ep,mV _ A,mV _ M,mV _ al]
theorem tX(d:Nat){x y:Int}(A:bj x)(M:bj y):Tryz.prog.keyLits (d+2) 40 [.int o x, .int o y]=D [.int o x, .int o y]:=by
 unfold Program.keyLits;rw[Tryz.underlying40];simp[dp,ep,mV _ A,mV _ M]
theorem tW(d:Nat){a b c e:Int}(s:bj a)(G:bj b)(hc:bj c)(ai:bj e):Tryz.prog.keyLits (d+3) 42 [.int o a, .int o b, .int o c, .int o e]=D [.int o a, .int o b, .int o c, .int o e]:=by
 unfold Program.keyLits;rw[Tryz.underlying42];simp[eW,dp,tX _ s G,tX _ hc ai]
theorem tV{x y k:Int}(A:bj x)(M:bj y)(al:bj k):∃l,keyOf aj 53 (aq #[.int o x, .int o y, .int o k])=D l:=by
 obtain⟨d,ah⟩:=vZ;unfold keyOf;have h:=zK (d+2) A M al;simp[Tryz.underlying53,zN,Value.formed,cZ,ah,Value.cells,h]
theorem tU{a b c e:Int}(s:bj a)(G:bj b)(hc:bj c)(ai:bj e):∃l,keyOf aj 42 (aq #[.int o a, .int o b, .int o c, .int o e])=D l:=by
 obtain⟨d,ah⟩:=vZ;unfold keyOf;have h:=tW (d+1) s G hc ai;simp[Tryz.underlying42,zM,Value.formed,eW,ah,Value.cells,h]
end
section
open Go.RowKit Go.Maps
structure fU(g:Type) where
 K:dK
 T:dK
 enc:g->ae
 ok:g->Prop
 law:Keyed aj K
 ht:Tryz.prog.underlying T=D (.map K 3)
 key:∀a,ok a->∃l,keyOf aj K (enc a)=D l
 inj:∀a b,enc a=enc b->a=b
theorem uc{a b:Int}(h:(DataW.lit (.int o a):DataW Unit)= .lit (.int o b)):a=b:=by
 injection h with h
 injection h with _ h
theorem oA(w:ac):(zeroValue 3).run aj w= .ok (.int o 0) w:=by kernel_rfl
section
variable {g:Type}
def co(k:fU g)(w:ac)(b n:Nat)(f:g->Option Int):Prop:=
 ∃i:DataW Unit,w.ownsMap aj k.K (plainElem aj 3) b n i/\
  (∀a l,k.ok a->keyOf aj k.K (k.enc a)=D l->Maps.has i l=(f a).isSome/\i.atKey l (.lit (.int o 0))= .lit (.int o ((f a).getD 0)))/\
  ∃r:List g,r.Nodup/\(∀a,(f a).isSome=S↔a ∈ r)/\(∀a ∈ r,k.ok a)/\Maps.size i=r.length
variable {k:fU g} {w Z:ac} {b n:Nat} {f:g->Option Int}
theorem co.made(k:fU g)(w:ac):co k (w.alloc (.map #[] 0)) w.heap.size 0 (fun _=>F):=
 ⟨.map [],World.ownsMap_made _ _ _ _,fun a l _ _=>⟨rfl,rfl⟩, [],List.nodup_nil,by simp,by simp,rfl⟩
theorem co.heap(h:co k w b n f)(G:Z.heap[b]? =w.heap[b]?):co k Z b n f:=by
 obtain⟨i,⟨aB,c,h1,ab⟩,ag⟩:=h;exact⟨i,⟨aB,c,G.trans h1,ab⟩,ag⟩
theorem co.lt(h:co k w b n f):b < w.heap.size:=by obtain⟨i,h1,_⟩:=h;exact h1.lt
theorem co.below(h:co k w b n f){ar:Nat}(G:Below ar w Z)(aK:b < ar):co k Z b n f:=h.heap (G.block b aK)
theorem co.stay(h:co k w b n f)(G:Below w.heap.size w Z):co k Z b n f:=h.below G h.lt
theorem co.mono(h:co k w b n f){aA:Nat}(hn:n<=aA):co k w b aA f:=by obtain⟨i,h1,ab⟩:=h;exact⟨i,h1.mono hn,ab⟩
theorem co.alloc(h:co k w b n f)(af:Obj):co k (w.alloc af) b n f:=h.stay (aV w af)
theorem co.drew(h:co k w b n f):co k w.drew b n f:=h
theorem co.look(h:co k w b n f){a:g}(s:k.ok a):(e2 k.T (.map (D b)) (k.enc a) S).run aj w= .ok (.tuple #[.int o ((f a).getD 0), .bool (f a).isSome]) w:=by
 obtain⟨i,h1,ab,_⟩:=h;obtain⟨l,av⟩:=k.key a s;obtain⟨v,ps,am,L⟩:=h1.look_ok k.law k.ht (oA w) (plainElem_int Tryz.underlying3 (by decide)) av;obtain⟨c,rfl,hc,aL⟩:=plainElem_int_inv Tryz.underlying3 L;obtain⟨ap,ak⟩:=ab a l s av;have hc:=congrArg Prod.fst hc;rw[ak] at hc;have aD:(f a).getD 0=c:=by
  have:=uc hc;exact this
 rw[am,ap,aD]
theorem co.gZ(h:co k w b n f){a:g}(s:k.ok a):(e2 k.T (.map (D b)) (k.enc a) Q).run aj w= .ok (.int o ((f a).getD 0)) w:=by
 obtain⟨i,h1,ab,_⟩:=h;obtain⟨l,av⟩:=k.key a s;obtain⟨c,am,hc,aL⟩:=h1.lookup_int k.law k.ht Tryz.underlying3 (oA w) av;obtain⟨ap,ak⟩:=ab a l s av;rw[ak] at hc;rw[am,uc hc]
def dX[DecidableEq g](f:g->Option Int)(a:g)(v:Int):g->Option Int:=fun x=>if x=a then D v else f x
theorem co.pL[DecidableEq g]{i:DataW Unit}{l:Lit}{a:g}{v:Int}(s:k.ok a)(av:keyOf aj k.K (k.enc a)=D l)(h:w.ownsMap aj k.K (plainElem aj 3) b n i)
  (ab:∀a l,k.ok a->keyOf aj k.K (k.enc a)=D l->Maps.has i l=(f a).isSome/\i.atKey l (.lit (.int o 0))= .lit (.int o ((f a).getD 0)))
  (ag:∃r:List g,r.Nodup/\(∀a,(f a).isSome=S↔a ∈ r)/\(∀a ∈ r,k.ok a)/\Maps.size i=r.length)
  {m:Nat} (aJ:Z.ownsMap aj k.K (plainElem aj 3) b m (i.put l (.lit (.int o v)))):co k Z b m (dX f a v):=by
 have ht:=h.tidy k.law;have ax:=k.law.key av;refine⟨_,aJ, ?_, ?_⟩
 ·intro x az A N
  unfold dX;by_cases E:x=a
  ·subst E
   rw[av] at N;cases N
   rw[if_pos rfl,has_put_same ht.isMap ax,atKey_put_same ht.isMap ax];exact⟨rfl,rfl⟩
  have ay:az≠l:=fun e=>E (k.inj _ _ (k.law.inj (e▸N) av));rw[if_neg E,has_put_other ay,atKey_put_other ay];exact ab x az A N
 obtain⟨r,P,I,an,R⟩:=ag;have J:=size_put (k:=l) ht (.lit (.int o v));rw[(ab a l s av).1] at J;by_cases hf:(f a).isSome=S
 ·rw[if_pos hf] at J
  refine⟨r,P,fun x=> ?_,an,by rw[J,R]⟩;unfold dX;by_cases E:x=a
  ·subst E
   rw[if_pos rfl];exact⟨fun _=>(I _).1 hf,fun _=>rfl⟩
  rw[if_neg E];exact I x
 rw[if_neg hf] at J;have aG:a ∉ r:=fun h=>hf ((I a).2 h);refine⟨a::r,List.nodup_cons.2 ⟨aG,P⟩,fun x=> ?_, ?_,by rw[J,R];rfl⟩
 ·unfold dX
  by_cases E:x=a
  ·subst E
   simp
  rw[if_neg E,I x];simp[E]
 intro x A;rcases dC.1 A with rfl | A
 ·exact s
 ·exact an x A
theorem co.put[DecidableEq g](h:co k w b n f)(hn:n < maxLen){a:g}(s:k.ok a){v:Int}(L:(Lit.int o v).wf=S):
  ∃Z,(Instr.mapUpdate k.T (.map (D b)) (k.enc a) (.int o v)).run aj w= .ok () Z/\co k Z b (n+1) (dX f a v)/\w.grownBy Z (D b):=by
 obtain⟨i,h1,ab,ag⟩:=h;obtain⟨l,av⟩:=k.key a s;obtain⟨Z,ap,ak,V⟩:=h1.update k.law k.ht hn av (plainElem_int Tryz.underlying3 L);exact⟨Z,ap,co.pL s av h1 ab ag ak,V⟩
theorem mn[DecidableEq g]{ops:Array de}{rest:List de}{af:de}{a:Act}{aw:Exit->Act->ac->Prop}(aE:af.guard=F)(m x v:Operand)(aH:af.op=Op.mapUpdate k.T m x v)
  (h:co k w b n f) (aF:a.eval m= .map (D b)) (hn:n < maxLen) (c:g) (hc:k.ok c) (z:Int) (A:a.eval x=k.enc c) (L:a.eval v= .int o z) (aI:(Lit.int o z).wf=S)
  (aC:∀Z,co k Z b (n+1) (dX f c z)->w.grownBy Z (D b)->wpList aj ops aw rest (a.put af.dst U) Z):wpList aj ops aw (af::rest) a w:=by
 obtain⟨i,h1,ab,ag⟩:=h;obtain⟨l,av⟩:=k.key c hc;exact wpList_mapUpdate_own w aE m x v k.T aH k.K 3 k.law k.ht _ b n i aF h1 hn _ _ l A L av _ [] (plainElem_int Tryz.underlying3 aI) (fun Z ak V=>aC Z (co.pL hc av h1 ab ag ak) V)
theorem co.len(h:co k w b n f):∃r:List g,r.Nodup/\(∀a,(f a).isSome=S↔a ∈ r)/\∀ao,(Builtin.len_ #[k.T] ao #[.map (D b)]).run aj w= .ok (.int o r.length) w:=by
 obtain⟨i,h1,ab,r,P,I,an,R⟩:=h;exact⟨r,P,I,fun ao=>by rw[h1.len k.ht ao,R]⟩
end
end
end
section
open Go.RowKit Go.Maps
def ei:fU ah where
 K:=53
 T:=70
 enc t:=bK t
 ok t:=bj t.1/\bj t.2.1/\bj t.2.2
 law:=Keyed.of_law pi
 ht:=Tryz.underlying70
 key a h:=tV h.1 h.2.1 h.2.2
 inj a b h:=by
  obtain⟨ao,a2,k⟩:=a;obtain⟨b1,aC,aM⟩:=b;simp at h;simp[h]
def e8:fU aO where
 K:=42
 T:=71
 enc t:=bS t
 ok t:=bj t.1/\bj t.2.1/\bj t.2.2.1/\bj t.2.2.2
 law:=Keyed.of_law ph
 ht:=Tryz.underlying71
 key a h:=tU h.1 h.2.1 h.2.2.1 h.2.2.2
 inj a b h:=by
  obtain⟨ao,a2,k,l⟩:=a;obtain⟨b1,aC,aM,r⟩:=b;simp at h;simp[h]
def eH(L:List ah)(t:ah):Option Int:=if t ∈ L then D ((L.idxOf t:Nat):Int) else F
theorem uN(L:List ah)(t:ah):(eH L t).isSome=au (t ∈ L):=by
 unfold eH
 split <;> simp_all
theorem Bm:eH []=fun _=>F:=by funext t;simp[eH]
theorem Bn{L:List ah}{t:ah}(h:t ∉ L):dX (eH L) t (L.length:Int)=eH (L++ [t]):=by
 funext x
 unfold dX eH;by_cases i:x=t
 ·subst i
  rw[if_pos rfl,if_pos (by simp),List.idxOf_append,if_neg h];simp
 rw[if_neg i];by_cases c:x ∈ L
 ·rw[if_pos c,if_pos (by simp[c]),List.idxOf_append,if_pos c]
 ·rw[if_neg c,if_neg (by simp[c,i])]
structure eE(w:ac)(aA bz bg:Nat)(W H:Nat)(aS bD bJ:ae)(L:List ah)(dc mk:Nat)(aU:aO->Option Int):Prop where
 bT:w.heap[aA]? =D (Y #[B o W, B o H,aS,bD,bJ, .map (D bz), .map (D bg)] 73 (0,0))
 num:co ei w bz dc (eH L)
 d9:co e8 w bg mk aU
section
variable {w Z:ac} {aA bz bg W H:Nat} {aS bD bJ:ae} {L:List ah} {dc mk:Nat} {aU:aO->Option Int}
theorem eE.below(h:eE w aA bz bg W H aS bD bJ L dc mk aU)(g:Below w.heap.size w Z):eE Z aA bz bg W H aS bD bJ L dc mk aU:=
 ⟨aG h.bT g (am h.bT),h.num.stay g,h.d9.stay g⟩
theorem eE.a1(h:eE w aA bz bg W H aS bD bJ L dc mk aU):w.cell? ⟨aA,0,F⟩=D (B o W):=by rw[aB h.bT 0];rfl
theorem eE.c1(h:eE w aA bz bg W H aS bD bJ L dc mk aU):w.cell? ⟨aA,1,F⟩=D (B o H):=by rw[aB h.bT 1];rfl
theorem eE.bC(h:eE w aA bz bg W H aS bD bJ L dc mk aU):w.cell? ⟨aA,4,F⟩=D bJ:=by rw[aB h.bT 4];rfl
theorem eE.b8(h:eE w aA bz bg W H aS bD bJ L dc mk aU):w.cell? ⟨aA,5,F⟩=D (.map (D bz)):=by rw[aB h.bT 5];rfl
theorem eE.dk(h:eE w aA bz bg W H aS bD bJ L dc mk aU):w.cell? ⟨aA,6,F⟩=D (.map (D bg)):=by rw[aB h.bT 6];rfl
theorem eE.look(h:eE w aA bz bg W H aS bD bJ L dc mk aU){t:ah}(ht:bj t.1/\bj t.2.1/\bj t.2.2):
  (e2 70 (.map (D bz)) (bK t) S).run aj w= .ok (.tuple #[B o ((eH L t).getD 0), aa (au (t ∈ L))]) w:=by
 have:=h.num.look (a:=t) ht;rw[uN] at this;exact this
end
end
section
set_option maxRecDepth 100000
open Go.RowKit Go.Maps
variable {e:aO}{n:Nat}{t:ah}{w:ac}
def gw(t:ah):Prop:=(-1000<=t.1/\t.1<=1000)/\(-1000<=t.2.1/\t.2.1<=1000)/\dN t
theorem gw.ok(h:gw t):bj t.1/\bj t.2.1/\bj t.2.2:=by
 obtain⟨h1,ab,ag,az⟩:=h;unfold bj;omega
theorem gw.next(h:gw t){i:Nat}(al:i < 3):bj (bE t i).1/\bj (bE t i).2.1/\bj (bE t i).2.2:=by
 obtain⟨h1,ab,ag⟩:=h;obtain⟨x,y,ht⟩:=iM ag;unfold bj;rcases e7 al with rfl | rfl | rfl <;> rcases ht with rfl | rfl | rfl | rfl <;> simp[m4,m5,m6,n10,n11,n12,n20,n21,n22,n30,n31,n32] at h1 ab |- <;> omega
theorem AW{W H:Nat}(hW:W<=8)(aR:H<=8)(J:jK W H e=S):∀t ∈ jL e,gw t:=by
 intro t ht;obtain⟨h1,ab,ag⟩:=uH.1 ht;simp only[jK,lj,Bool.or_eq_false_iff,decide_eq_false_iff_not] at J;obtain⟨⟨⟨aZ,bm⟩,dH⟩,dJ⟩:=J;have ao:0<=e.1.tdiv 2/\e.1.tdiv 2<=8:=by rw[nH (by omega)];omega
 have a2: -1<=e.2.1.tdiv 2/\e.2.1.tdiv 2<=8:=by
  by_cases h:0<=e.2.1
  ·rw[nH h];omega
  have:e.2.1= -1:=by omega
  rw[this];decide
 exact⟨by omega,by omega,ag⟩
theorem y7:(bi t e=Q->kq (bk t 0) (bk t 1) (bk t 2) e= -1)/\(bi t e=S->∃i:Nat,i < 3/\kq (bk t 0) (bk t 1) (bk t 2) e=i/\bk t i=e):=by
 constructor
 ·exact y9
 intro h;unfold kq;by_cases h0:dA e (bk t 0)=S
 ·exact⟨0,by omega,by rw[if_pos h0];rfl,((hB _ _).1 h0).symm⟩
 rw[if_neg h0];by_cases h1:dA e (bk t 1)=S
 ·exact⟨1,by omega,by rw[if_pos h1];rfl,((hB _ _).1 h1).symm⟩
 rw[if_neg h1];by_cases ab:dA e (bk t 2)=S
 ·exact⟨2,by omega,by rw[if_pos ab];rfl,((hB _ _).1 ab).symm⟩
 exfalso;obtain⟨i,al,af⟩:=ob.1 h;rcases e7 al with rfl | rfl | rfl
 ·exact h0 ((hB _ _).2 af.symm)
 ·exact h1 ((hB _ _).2 af.symm)
 ·exact ab ((hB _ _).2 af.symm)
theorem dF{bX:Nat}{e:dK}{v:ae}{dr:List ae}{aL:Nat}(h:w.ownsRow bX e aL v n dr)(hn:0 < n):∃g c bf,v= O (D ⟨g,0,F⟩) n c/\n<=c/\c<=maxLen/\bX<=g/\w.heap[g]? =D (.cells bf e (0,0)):=by
 rcases h.2 with ⟨_,h0⟩ | ⟨g,c3,bf,rfl,h1,ab,ag,az,_,_⟩
 ·omega
 ·exact⟨g,c3,bf,rfl,ag,az,h1,ab⟩
theorem ey{cJ c g:Nat}{l:List ah}(h:w.ownsRow cJ 53 3 (O (D ⟨g,0,F⟩) n c) n (bn l)){j:Nat}(ht:l[j]? =D t):
  w.cell? ⟨g,j*3,F⟩=D (B o t.1)/\w.cell? ⟨g,j*3+1,F⟩=D (B o t.2.1)/\w.cell? ⟨g,j*3+2,F⟩=D (B o t.2.2):=by
 have cC:=Rd.dB h;have av:l.length*3=n*3:=by rw[<-iw];exact cC.1
 have df:=(bM.1 ht).1;obtain⟨b,dG,e,_,hc⟩:=cC.2 (by omega);cases e
 have h0:=hc _ _ (ia l j 0 t ht (by decide));have h1:=hc _ _ (ia l j 1 t ht (by decide));have ab:=hc _ _ (ia l j 2 t ht (by decide));rw[fT,show 3*j+0=j*3 by omega] at h0;rw[fT,show 3*j+1=j*3+1 by omega] at h1;rw[fT,show 3*j+2=j*3+2 by omega] at ab;exact⟨h0,h1,ab⟩
theorem zf(aA bz bg W H:Nat)(aS bD bJ:ae)(L:List ah)(dc mk:Nat)(aU:aO->Option Int)(e:aO)(w:ac)(dj:Steps w)(cy:eE w aA bz bg W H aS bD bJ L dc mk aU)(hW:W<=8)(aR:H<=8)
  (hL:∀t ∈ L,0<=t.1/\t.1 < W/\0<=t.2.1/\t.2.1 < H/\dN t):
  bB aj 87 #[ad (D ⟨aA,0,F⟩),bS e] w fun r Z=>r= .returned (aa (gC L e))/\Below w.heap.size w Z:=by
 have b9:∀t ∈ L,dN t:=fun t ht=>(hL t ht).2.2.2.2;have cG:=aQ w (Y #[B o e.1, B o e.2.1, B o e.2.2.1, B o e.2.2.2] 42);have aJ:=aV w (Y #[B o e.1, B o e.2.1, B o e.2.2.1, B o e.2.2.2] 42);have aE:=cy.below aJ;have cD:=dj.below aJ;have aF:w.heap.size < (w.alloc (Y #[B o e.1, B o e.2.1, B o e.2.2.1, B o e.2.2.2] 42)).heap.size:=by simp
 obtain⟨bh,ap,ak,bl⟩:=dm cG
 cases J:jK W H e with
 | false=>
  have cv:=tP hL (.inl J);have ay:=fun E (h0:E.cell? ⟨aA,0,F⟩=D (B o W)) (h1:E.cell? ⟨aA,1,F⟩=D (B o H))=>AU aA W H e E h0 h1 hW aR J;have a7:=R (ay _ aE.a1 aE.c1);rw[cv];clear ay cv;go_in
  go_wp2_with (go_at_call 114;refine aw a7.out fun E G=> ?_)
  go_loopw [17] (fun i wr=>i= B o 0/\wr=E) (fun _ _=>0)
  case atStart=>exact⟨rfl,rfl⟩
  obtain⟨rfl,rfl⟩:=hrel;go_wp2;go_ret;exact⟨rfl,ax aJ G⟩
 | true=>
  have bN:=AW hW aR J;have ay:=AV aA W H e _ aE.a1 aE.c1 hW aR J;have a0:=tP (e:=e) hL;have cg:=fun(t:ah) (ht:gw t) (i:Nat) (al:i < 3)=>rj (l:=L) b9 ht.2.2 al;obtain⟨a8,bv⟩:=ai (gC L e);rw[<-bv] at a0 |-;obtain⟨N,bu⟩:=ai (jL e);have dD:N.length=36:=by rw[bu,<-uI,uJ]
  rw[<-bu] at ay bN a0;have cr:(∀t ∈ N,bi t e=Q)->a8=Q:=fun h=>a0 (.inr h);obtain⟨cU,cQ,cZ,a7,c0⟩:=dY cr cg bv ay bN;clear ay a0 cg bv bu J bN cr b9;go_in
  go_wp2_with (go_at_call 114;refine a7.out.mono ?_;rintro r E ⟨v,rfl,bG,G⟩;obtain⟨dx,dw,dv,dp,_,_,_,_⟩:=dF bG (by omega);subst dp)
  have dh:=aE.below G;have dk:=cD.below G;have a4:w.heap.size < E.heap.size:=Nat.lt_of_lt_of_le aF G.size;have bh:=c9 bh G aF;have ap:=c9 ap G aF;have ak:=c9 ak G aF;have bl:=c9 bl G aF;have co:Below w.heap.size w E:=ax aJ G;obtain⟨cX,cY⟩:=aY bG dh;clear bG G aJ aE cD cG aF cy;go_loopw [17] (fun i wr=>∃j:Nat,j<=N.length/\i= B o j/\Hid (∀t ∈ N.take j,bi t e=Q)/\Below E.heap.size E wr) (fun i _=>N.length-(intOf i).toNat)
  case atStart=>exact⟨0,by omega,rfl,R (by simp),aX⟩
  obtain⟨j,df,rfl,hall,I⟩:=hrel;by_cases dg:j < N.length
  ·obtain⟨t,ht⟩:∃t,N[j]? =D t:=⟨_,bb dg⟩
   have hts:=c0.out t (cH ht);obtain⟨dL,dO,dP⟩:=ey (bo cX.out I) ht;have b5:=c9 bh I a4;have f1:=c9 ap I a4;have f2:=c9 ak I a4;have b6:=c9 bl I a4;have cB:=cY.out.below I;have bO:=dk.below I;obtain⟨c2,z⟩:=aY ht hts;clear ht hts;have eW:=n4 t.1 t.2.1 t.2.2 _ (bO.alloc (Y #[B o t.1, B o t.2.1, B o t.2.2] 53)) (by have:=z.out.1;omega) (by have:=z.out.1;omega) (by have:=z.out.2.1;omega) (by have:=z.out.2.1;omega) z.out.2.2.1 z.out.2.2.2;have bA:=y7 (t:=t) (e:=e);obtain⟨a,br⟩:=ai (bk t 0);obtain⟨k,bs⟩:=ai (bk t 1);obtain⟨s,bt⟩:=ai (bk t 2);rw[show ci t.1 t.2.1 t.2.2 0=a from br.symm,show ci t.1 t.2.1 t.2.2 1=k from bs.symm,show ci t.1 t.2.1 t.2.2 2=s from bt.symm] at eW
   rw[<-br,<-bs,<-bt] at bA;obtain⟨cK,bU⟩:=aY eW bA;have bQ:=aQ wr (Y #[B o t.1, B o t.2.1, B o t.2.2] 53);have K:=aD b5 (Y #[B o t.1, B o t.2.1, B o t.2.2] 53);have M:=aD f1 (Y #[B o t.1, B o t.2.1, B o t.2.2] 53);have P:=aD f2 (Y #[B o t.1, B o t.2.1, B o t.2.2] 53);have T:=aD b6 (Y #[B o t.1, B o t.2.1, B o t.2.2] 53);have cA:=cB.below (aV wr (Y #[B o t.1, B o t.2.1, B o t.2.2] 53));have cF:=bO.alloc (Y #[B o t.1, B o t.2.1, B o t.2.2] 53);have ch:=aN (Below.refl wr.heap.size wr) (Y #[B o t.1, B o t.2.1, B o t.2.2] 53);clear eW bA br bs bt b5 f1 f2 b6 cB bO
   go_wp2_with fail
   refine aw cK.out fun ar aB=> ?_;have bR:=aG bQ aB (am bQ);obtain⟨K,M,P,T⟩:=fQ aB K M P T;have cz:=cA.below aB;have cE:=cF.below aB;have ck:=ax ch aB;clear bQ cA cF ch aB
   go_wp2_with fail
   have bP:=aQ ar (Y #[B o a.1, B o a.2.1, B o a.2.2.1, B o a.2.2.2, B o k.1, B o k.2.1, B o k.2.2.1, B o k.2.2.2, B o s.1, B o s.2.1, B o s.2.2.1, B o s.2.2.2] 145);have aC:=aV ar (Y #[B o a.1, B o a.2.1, B o a.2.2.1, B o a.2.2.2, B o k.1, B o k.2.1, B o k.2.2.1, B o k.2.2.2, B o s.1, B o s.2.1, B o s.2.2.1, B o s.2.2.2] 145);obtain⟨K,M,P,T⟩:=fQ aC K M P T;have a5:=aG bR aC (am bR);have bH:=cz.below aC;have bL:=cE.below aC;have bx:=ax ck aC;clear aC bR cz cE ck;generalize ar.alloc (Y #[B o a.1, B o a.2.1, B o a.2.2.1, B o a.2.2.2, B o k.1, B o k.2.1, B o k.2.2.1, B o k.2.2.2, B o s.1, B o s.2.1, B o s.2.2.1, B o s.2.2.2] 145)=w3 at bP K M P T a5 bH bL bx |-
   have ep:=fun(aH:ac) (az:aH.heap[ar.heap.size]? =D (Y #[B o a.1, B o a.2.1, B o a.2.2.1, B o a.2.2.2, B o k.1, B o k.2.1, B o k.2.2.1, B o k.2.2.2, B o s.1, B o s.2.1, B o s.2.2.1, B o s.2.2.2] 145 (0,0)))=>zc a k s e ar.heap.size aH az;obtain⟨dE,bC⟩:=ai (kq a k s e);rw[<-bC] at ep;obtain⟨bV,cL⟩:=aY bC ep;clear ep bC;have c6:w3.drew.cell? ⟨w.heap.size,0,F⟩=D (B o e.1)/\w3.drew.cell? ⟨w.heap.size,1,F⟩=D (B o e.2.1)/\w3.drew.cell? ⟨w.heap.size,2,F⟩=D (B o e.2.2.1)/\w3.drew.cell? ⟨w.heap.size,3,F⟩=D (B o e.2.2.2)/\w3.drew.heap[ar.heap.size]? =D (Y #[B o a.1, B o a.2.1, B o a.2.2.1, B o a.2.2.2, B o k.1, B o k.2.1, B o k.2.2.1, B o k.2.2.2, B o s.1, B o s.2.1, B o s.2.2.1, B o s.2.2.2] 145 (0,0))/\Below w3.heap.size w3 w3.drew:=⟨K,M,P,T,bP,aX.drew⟩
   go_region_held3 (fun Z=>Z.cell? ⟨w.heap.size,0,F⟩=D (B o e.1)/\Z.cell? ⟨w.heap.size,1,F⟩=D (B o e.2.1)/\Z.cell? ⟨w.heap.size,2,F⟩=D (B o e.2.2.1)/\Z.cell? ⟨w.heap.size,3,F⟩=D (B o e.2.2.2)/\Z.heap[ar.heap.size]? =D (Y #[B o a.1, B o a.2.1, B o a.2.2.1, B o a.2.2.2, B o k.1, B o k.2.1, B o k.2.2.1, B o k.2.2.2, B o s.1, B o s.2.1, B o s.2.2.1, B o s.2.2.2] 145 (0,0))/\Below w3.heap.size w3 Z)
    (first
     | with_reducible exact c6
     | with_reducible assumption
     | (go_split_ands;exact⟨V ‹_› A,V ‹_› A,V ‹_› A,V ‹_› A,aG ‹_› A (am ‹_›),ax ‹_› A⟩))
    (first
     | (go_split_ands;(with_reducible refine(cL.out _ (by assumption)).mono ?_);rintro r wc ⟨af,A⟩;subst af))
   rename_i aI
   obtain⟨_,_,_,_,_,aK⟩:=aI;have cI:=aG a5 aK (am a5);have a3:=bH.below aK;have dn:=bL.below aK;have cl:=ax bx aK;clear bP K M P T a5 bH bL bx aK;have bw:=ax I cl
   cases aM:bi t e with
   | false=>
    have aP:=bU.out.1 aM;rw[<-bV.out] at aP;subst aP;have cw:∀u ∈ N.take (j+1),bi u e=Q:=by
     intro u an;rw[List.take_add_one,c2.out] at an;rcases js.1 an with an | an
     ·exact hall.out u an
     simp at an;rw[an];exact aM
    have cW:=R cw;clear cw aM;go_wp2;go_roundw
    case rel=>exact⟨j+1,by omega,by go_num,cW,bw⟩
    case measure=>simp[intOf];omega
   | true=>
    obtain⟨i,al,aP,ct⟩:=bU.out.2 aM;rw[<-bV.out] at aP;have bK:=cQ.out t z.out i al;rw[ct,<-cZ.out] at bK;have bW:=R bK;obtain⟨bc,bd,be⟩:=dl cI;have bY:=a3.b8;have bF:=(a3.below aX.drew).look z.out.ok;have dy:(0:Int)<=(i:Int):=by omega
    subst aP;clear aM ct bK;obtain⟨bT,bp⟩:=ai (au (t ∈ L));rw[<-bp] at bF;have cR:=R bp;obtain⟨dt,cb⟩:=ai ((eH L t).getD 0);rw[<-cb] at bF;clear bp cb
    go_wp2_with fail
    have c7:wc.drew.cell? ⟨wr.heap.size,0,F⟩=D (B o t.1)/\wc.drew.cell? ⟨wr.heap.size,1,F⟩=D (B o t.2.1)/\wc.drew.cell? ⟨wr.heap.size,2,F⟩=D (B o t.2.2)/\wc.drew.cell? ⟨aA,5,F⟩=D (.map (D bz))/\Below wc.heap.size wc wc.drew:=⟨bc,bd,be,bY,aX.drew⟩
    go_region_held3 (fun Z=>Z.cell? ⟨wr.heap.size,0,F⟩=D (B o t.1)/\Z.cell? ⟨wr.heap.size,1,F⟩=D (B o t.2.1)/\Z.cell? ⟨wr.heap.size,2,F⟩=D (B o t.2.2)/\Z.cell? ⟨aA,5,F⟩=D (.map (D bz))/\Below wc.heap.size wc Z)
     (first
      | with_reducible exact c7
      | with_reducible assumption)
     (first
      | fail)
    rename_i aI
    clear aI
    go_wp2_with fail
    have bI:=a3.below aX.drew;have cj:Below E.heap.size E wc.drew:=bw.drew;have b2:wc.drew.cell? ⟨wr.heap.size,0,F⟩=D (B o t.1):=bc;have b3:wc.drew.cell? ⟨wr.heap.size,1,F⟩=D (B o t.2.1):=bd;have b4:wc.drew.cell? ⟨wr.heap.size,2,F⟩=D (B o t.2.2):=be;have bZ:=bI.b8;clear bc bd be bY a3 bF bw cl dn cI;generalize wc.drew=wd at bI cj b2 b3 b4 bZ |-;have ba:=fun(aH:ac)=>oi t.1 t.2.1 t.2.2 i aH al (by have:=z.out.1;omega) (by have:=z.out.1;omega) (by have:=z.out.2.1;omega) (by have:=z.out.2.1;omega) z.out.2.2.1 z.out.2.2.2;have cx:=z.out.next al;have aW:=fun(aH:ac) (da:Below wd.heap.size wd aH)=>(bI.below da).look cx;obtain⟨a9,aT⟩:=ai (bE t i);rw[show dI t.1 t.2.1 t.2.2 i=a9 from aT.symm] at ba;rw[<-aT] at aW
    rw[<-aT] at bW;obtain⟨cN,bq⟩:=ai (au (a9 ∈ L));obtain⟨du,cd⟩:=ai ((eH L a9).getD 0);rw[<-bq,<-cd] at aW;obtain⟨cT,cM,cV⟩:=cq bq ba aW;clear aT bq cd cx ba aW;have c8:wd.drew.cell? ⟨wr.heap.size,0,F⟩=D (B o t.1)/\wd.drew.cell? ⟨wr.heap.size,1,F⟩=D (B o t.2.1)/\wd.drew.cell? ⟨wr.heap.size,2,F⟩=D (B o t.2.2)/\wd.drew.cell? ⟨aA,5,F⟩=D (.map (D bz))/\Below wd.heap.size wd wd.drew:=⟨b2,b3,b4,bZ,aX.drew⟩
    go_region_held3 (fun Z=>Z.cell? ⟨wr.heap.size,0,F⟩=D (B o t.1)/\Z.cell? ⟨wr.heap.size,1,F⟩=D (B o t.2.1)/\Z.cell? ⟨wr.heap.size,2,F⟩=D (B o t.2.2)/\Z.cell? ⟨aA,5,F⟩=D (.map (D bz))/\Below wd.heap.size wd Z)
     (first
      | with_reducible exact c8
      | with_reducible assumption
      | (go_split_ands;exact⟨V ‹_› A,V ‹_› A,V ‹_› A,V ‹_› A,ax ‹_› A⟩))
     (first
      | ((with_reducible refine(cM.out _).mono ?_);rintro r dq ⟨af,A⟩;subst af;have dz:=cV.out dq (ax (Below.refl wd.heap.size wd).drew A)))
    rename_i aI
    obtain⟨_,_,_,_,db⟩:=aI;have dd:=ax cj db;have c5:a8=(bT && cN):=by rw[bW.out,<-cR.out,<-cT.out]
    subst c5;cases bT
    all_goals
     go_wp2;go_ret;exact⟨rfl,ax co dd⟩
  obtain rfl:j=N.length:=by omega
  have di:a8=Q:=cU.out (by have:=hall.out;rw[List.take_of_length_le ce] at this;exact this);subst di;go_wp2;go_ret;exact⟨rfl,ax co I⟩
end
section
open Go.RowKit
theorem filter_lt{bg:Type}(p q:bg->Bool):∀(l:List bg),(∀x,q x=S->p x=S)->(∃x ∈ l,p x=S/\q x=Q)->(l.filter q).length < (l.filter p).length:=by
 intro l bk;have bt:∀l:List bg,(l.filter q).length<=(l.filter p).length:=by
  intro l
  induction l with
  | nil=>simp
  | cons x l aU=>
   simp only[List.filter_cons];cases J:q x
   ·simp only[p9,if_false]
    split <;> (try simp only[fJ]) <;> omega
   rw[bk x J];simp only[if_true,fJ];omega
 induction l with
 | nil=>rintro⟨x,am,_⟩;cases am
 | cons y l aU=>
  rintro⟨x,am,h1,ab⟩;simp only[List.filter_cons];rcases dC.1 am with rfl | am
  ·rw[h1,ab]
   have:=bt l;simp only[p9,if_false,if_true,fJ];omega
  have:=aU ⟨x,am,h1,ab⟩;cases J:q y
  ·simp only[p9,if_false]
   split <;> (try simp only[fJ]) <;> omega
  rw[bk y J];simp only[if_true,fJ];omega
section
variable {P:Program} {ops:Array de} {V:Exit->Act->ac->Prop} {an:se}
def ml(ops:Array de)(z:Array Bool):Nat:=((c4 ops.size).filter (fun j=>z.getD j S==Q)).length
theorem jU{z:Array Bool}{i:Nat}(h:i ∈ fS an ops z):i < ops.size:=by
 obtain⟨_,af,E,_⟩:=mem_ready.1 h;exact(hb.1 E).1
theorem cA{z:Array Bool}{i k:Nat}(h:i ∈ fS an ops z)(aA:eB an ops i k=S):z.getD k Q=S:=by
 obtain⟨_,af,E,hall⟩:=mem_ready.1 h;obtain⟨bH,bz,e,aN,ah,aE⟩:=Region.waitsFor_spec aA;obtain rfl:af=bH:=cn (E.symm.trans bz);rw[<-aE];exact hall e aN ah
theorem DB(R:Array Bool->Act->ac->Prop)
  (dH:∀z a w i,R z a w->i ∈ fS an ops z->wpOp P ops V i (fun aw Z=>R (z.setIfInBounds i S) aw Z) a w)
  (aJ:∀z a w,R z a w->fS an ops z= []->V .normal a w):
  ∀(fuel:Nat) (z:Array Bool) (a:Act) (w:ac),ml ops z<=fuel->R z a w->wpAny P an ops V fuel z a w:=by
 intro fuel
 induction fuel with
 | zero=>
  intro z a w hc aO;have ay:fS an ops z= []:=by
   apply List.eq_nil_iff_forall_not_mem.2
   intro j N;have h1:=jU N;have ab:=(mem_ready.1 N).1;have ag:j ∈ (c4 ops.size).filter (fun j=>z.getD j S==Q):=List.mem_filter.2 ⟨fl.2 h1,by rw[ab];rfl⟩;have az:=qm ag;unfold ml at hc;omega
  exact⟨ay,aJ z a w aO ay⟩
 | succ fuel aU=>
  intro z a w hc aO;refine⟨fun h=>aJ z a w aO h,fun i al=> ?_⟩;refine wpOp_mono (fun aw Z aZ=>aU _ aw Z ?_ aZ) (dH z a w i aO al);have h1:=jU al;have ab:=(mem_ready.1 al).1;have ag:i < z.size:=by
   rcases Nat.lt_or_ge i z.size with h | h
   ·exact h
   ·simp[h] at ab
  have az:ml ops (z.setIfInBounds i S) < ml ops z:=by
   unfold ml;apply filter_lt
   ·intro x am
    by_cases bl:i=x
    ·subst bl
     simp[ag] at am
    rw[getD_set_ne S bl] at am;exact am
   ·exact⟨i,fl.2 h1,by rw[ab];rfl,by simp[ag]⟩
  omega
theorem Dq(z:Array Bool):ml ops z<=ops.size:=by
 unfold ml;exact Nat.le_trans (wz _ _) (by simp)
theorem mo{id:Nat}{a:Act}{w:ac}(R:Array Bool->Act->ac->Prop)(aD:P.follows .mixedOrders=S)
  (h0:R (eA ops.size Q) a w.drew)
  (dH:∀z a w i,R z a w->i ∈ fS .any ops z->wpOp P ops V i (fun aw Z=>R (z.setIfInBounds i S) aw Z) a w)
  (aJ:∀z a w,R z a w->fS .any ops z= []->V .normal a w):(j1 id ops S).wp P V a w:=
 wp_region_any aD (DB R dH aJ ops.size _ a w.drew (Dq _) h0)
theorem yc{z:Array Bool}(h:fS an ops z= []){k:Nat}{af:de}(E:ops[k]? =D af)(aF:z.size=ops.size)
  (M:∀e ∈ af.after,Region.binds an e=S->z.getD e.on Q=S):z.getD k Q=S:=by
 have A:=(hb.1 E).1
 cases av:z.getD k Q with
 | true=>rfl
 | false=>
  have ab:z.getD k S=Q:=by
   have:k < z.size:=by omega
   simp[this] at av |-;exact av
  have:k ∈ fS an ops z:=mem_ready.2 ⟨ab,af,E,M⟩;rw[h] at this;cases this
theorem up{z:Array Bool}{i j:Nat}(aS:i≠j)(h:(z.setIfInBounds i S).getD j Q=S):z.getD j Q=S:=by rwa [getD_set_ne Q aS] at h
def sG(an:se)(ops:Array de):Bool:=(c4 ops.size).all fun k=>match ops[k]? with
 | some af=>af.after.all fun e=> !Region.binds an e || au (e.on < k)
 | none=>S
theorem lE{an:se}{ops:Array de}{z:Array Bool}(h:fS an ops z= [])(aF:z.size=ops.size)(ah:sG an ops=S):∀k,k < ops.size->z.getD k Q=S:=by
 intro k
 induction k using Nat.strongRecOn with
 | _ k aU=>
  intro A;have h1:=dM.1 ah k (fl.2 A);have ab:ops[k]? =D ops[k]:=r7 A;rw[ab] at h1;simp only at h1;refine yc h ab aF fun e aN bq=> ?_;have ag:=Array.all_eq_true'.1 h1 e aN;rw[bq] at ag;have az:=of_decide_eq_true (by simpa using ag:au (e.on < k)=S);exact aU e.on az (by omega)
end
def je:Exit->Act->ac->Prop:=fun _ _ _=>False
def aT:List de->List ae->Act->Act
 | af::os,v::bx,a=>aT os bx (a.put af.dst v)
 | _,_,a=>a
def g4(ops:Array de):Bool:=sG .any ops && (c4 ops.size).all fun i=>match ops[i]? with
 | none=>S
 | some af=>(match af.op with | .select _ _=>Q | _=>S) &&
   (af.op.operands.all fun x=>match x with
     | .tmp t=>(c4 ops.size).all fun k=>match ops[k]? with
       | some p=> !(p.dst==D t) || eB .any ops i k
       | none=>S
     | _=>S) &&
   (match af.guard with | none=>S | some (g,_)=>eB .any ops i g) &&
   (c4 ops.size).all fun k=>match ops[k]? with
     | some p=>k==i || p.dst==F || !(p.dst==af.dst)
     | none=>S
section
variable {P:Program} {ops:Array de}
theorem vo{i:Nat}{af:de}(h:g4 ops=S)(E:ops[i]? =D af):
  (∀cs b,af.op≠ .select cs b)/\(∀t,Operand.tmp t ∈ af.op.operands->∀k p,ops[k]? =D p->p.dst=D t->eB .any ops i k=S)/\
  (∀g b,af.guard=D (g,b)->eB .any ops i g=S)/\(∀k p d,ops[k]? =D p->k≠i->p.dst=D d->af.dst≠D d):=by
 have al:=(hb.1 E).1;have h1:=dM.1 ((cu _ _).mp h).2 i (fl.2 al);rw[E] at h1;simp only[cu] at h1;obtain⟨⟨⟨h1,ab⟩,ag⟩,az⟩:=h1;refine⟨fun cs b e=>(by rw[e] at h1;cases h1),fun t ht k p A I=> ?_,fun g b ba=>(by rw[ba] at ag;exact ag),fun k p d A hn I e=> ?_⟩
 ·have ax:=Array.all_eq_true'.1 ab _ ht
  simp only at ax;have aY:=dM.1 ax k (fl.2 (hb.1 A).1);rw[A] at aY;simpa[I] using aY
 have aY:=dM.1 az k (fl.2 (hb.1 A).1);rw[A] at aY;simp[I,e,hn] at aY
structure Fr(ops:Array de)(fin:Act)(L:Array Bool)(a:Act):Prop where
 kn:a.defers=fin.defers
 jn:a.tmps.size=fin.tmps.size
 out:∀j:Nat,(∀(k:Nat) (p:de),ops[k]? =D p->p.dst≠D j)->a.tmps[j]? =fin.tmps[j]?
 val:∀(k:Nat) (p:de) (d:Tmp),ops[k]? =D p->p.dst=D d->L.getD k Q=S->a.tmps[d]? =fin.tmps[d]?
theorem nh:∀(os:List de) (bx:List ae) (a:Act),(aT os bx a).defers=a.defers/\(aT os bx a).tmps.size=a.tmps.size/\∀j:Nat,(∀p ∈ os,p.dst≠D j)->(aT os bx a).tmps[j]? =a.tmps[j]?
 | [],_,a=>⟨rfl,rfl,fun _ _=>rfl⟩
 | _::_, [],a=>⟨rfl,rfl,fun _ _=>rfl⟩
 | af::os,v::bx,a=>by
  obtain⟨h1,ab,ag⟩:=nh os bx (a.put af.dst v);refine⟨h1.trans (by cases af.dst <;> rfl),ab.trans (by cases af.dst <;> simp[a6]),fun j N=>(ag j fun p I=>N p (List.mem_cons_of_mem _ I)).trans ?_⟩
  have az:=N af (List.mem_cons_self ..)
  cases M:af.dst with
  | none=>rfl
  | some d=>
   have ax:d≠j:=fun e=>az (by rw[M,e]);simp[a6,nD ax]
theorem Fr.start{G:List ae}{a fin:Act}(hf:aT ops.toList G a=fin):Fr ops fin (eA ops.size Q) a:=by
 obtain⟨h1,ab,ag⟩:=nh ops.toList G a;rw[hf] at h1 ab ag;refine⟨h1.symm,ab.symm,fun j N=>(ag j fun p I=> ?_).symm,fun k p d _ _ hL=> ?_⟩
 ·obtain⟨k,A⟩:=fz I
  exact N k p (by simpa using A)
 simp only[li,mq] at hL
 split at hL <;> simp at hL
theorem Fr.put{fin a:Act}{L:Array Bool}(h:Fr ops fin L a)(ah:g4 ops=S){i:Nat}{af:de}(E:ops[i]? =D af){v:ae}(aG:fin.put af.dst v=fin):Fr ops fin (L.setIfInBounds i S) (a.put af.dst v):=by
 cases M:af.dst with
 | none=>
  refine⟨h.kn,h.jn,h.out,fun k p d A I hL=>h.val k p d A I (up (fun e=> ?_) hL)⟩;subst e;rw[E] at A;cases A
  rw[M] at I;cases I
 | some c=>
  have hc:fin.tmps[c]? =(a.put (D c) v).tmps[c]? :=by
   have h1:(fin.put (D c) v).tmps[c]? =(a.put (D c) v).tmps[c]? :=by simp[a6,r8,h.jn]
   rw[M] at aG
   rwa [aG] at h1
  refine⟨h.kn,by simpa[a6] using h.jn,fun j N=> ?_,fun k p d A I hL=> ?_⟩
  ·have:c≠j:=fun e=>N i af E (by rw[M,e])
   rw[<-h.out j N];simp[a6,nD this]
  by_cases e:c=d
  ·subst e
   exact hc.symm
  have bs:i≠k:=by
   rintro rfl;rw[E] at A;cases A
   rw[M] at I;exact e (cn I)
  rw[<-h.val k p d A I (up bs hL)];simp[a6,nD e]
theorem Fr.eval{fin a:Act}{L:Array Bool}(h:Fr ops fin L a)(ah:g4 ops=S){i:Nat}{af:de}(E:ops[i]? =D af)(ay:i ∈ fS .any ops L):execOp a.eval af=execOp fin.eval af/\eP af (yielded ops a.tmps)=eP af (yielded ops fin.tmps):=by
 obtain⟨b1,aC,aM,a7⟩:=vo ah E;refine⟨execOp_congr af b1 fun x am=> ?_, ?_⟩
 ·cases x with
  | tmp t=>
   have:a.tmps[t]? =fin.tmps[t]? :=by
    by_cases J:∀(k:Nat) (p:de),ops[k]? =D p->p.dst≠D t
    ·exact h.out t J
    simp only[wj,wk] at J;obtain⟨k,p,A,I⟩:=J;exact h.val k p t A I (cA ay (aC t am k p A I))
   simp only[Act.eval,li,this]
  | const v=>rfl
  | global g=>rfl
  | func f=>rfl
 unfold Region.wanted
 cases ba:af.guard with
 | none=>rfl
 | some bo=>
  obtain⟨g,b⟩:=bo;have aA:=aM g b ba;have aE:=cA ay aA;have:yielded ops a.tmps g=yielded ops fin.tmps g:=by
   unfold yielded
   cases I:ops[g]? with
   | none=>rfl
   | some p=>
    cases M:p.dst with
    | none=>simp[M]
    | some d=>
     simp only[Option.bind_some,M];rw[h.val g p d I M aE]
  simp only[this]
theorem vg:∀(os:List de) (bx:List ae) (a:Act) (k:Nat) (af:de) (d:Tmp),os[k]? =D af->af.dst=D d->(∀(aV:Nat) (bX:de),os[aV]? =D bX->aV≠k->bX.dst≠D d)->
  (aT os bx a).tmps[d]? =match bx[k]? with | some v=>(if d < a.tmps.size then D v else F) | none=>a.tmps[d]?
 | [],_,_,k,_,_,h,_,_=>by simp at h
 | _::_, [],a,k,_,_,_,_,_=>by simp[aT]
 | p::os,v::bx,a,0,af,d,h,M,hn=>by
  simp at h;subst h;have ag:=(nh os bx (a.put p.dst v)).2.2 d fun q J=>by
   obtain⟨k,A⟩:=fz J;exact hn (k+1) q (by simpa using A) (by omega)
  rw[aT,ag,M];simp[a6,r8]
 | p::os,v::bx,a,k+1,af,d,h,M,hn=>by
  have ag:=vg os bx (a.put p.dst v) k af d (by simpa using h) M fun aV bX A aS=>hn (aV+1) bX (by simpa using A) (by omega);have I:=hn 0 p (by simp) (by omega);rw[aT,ag];have hsz:(a.put p.dst v).tmps.size=a.tmps.size:=by cases p.dst <;> simp[a6]
  have az:(a.put p.dst v).tmps[d]? =a.tmps[d]? :=by
   cases J:p.dst with
   | none=>rfl
   | some c=>
    have:c≠d:=fun e=>I (by rw[J,e]);simp[a6,nD this]
  simp only[cO,hsz,az]
theorem Fr.vW{hR:Type}{G:hR->List ae}{a0:Act}{fin:hR->Act}(hf:∀x,aT ops.toList (G x) a0=fin x)(aB:∀x,(G x).length=ops.size)(ah:g4 ops=S){x ai:hR}{L:Array Bool}{a:Act}(h:Fr ops (fin x) L a){i:Nat}{af:de}(E:ops[i]? =D af)
  {u v:ae} (a4:(fin x).put af.dst u=(fin x).put af.dst v) (aG:G ai=(G x).set i v):Fr ops (fin ai) (L.setIfInBounds i S) (a.put af.dst u):=by
 have a7:=fun(k:Nat) (p:de) (A:ops[k]? =D p)=>(vo ah A).2.2.2;have al:=(hb.1 E).1;have at_:∀(y:hR) (k:Nat) (p:de) (d:Tmp),ops[k]? =D p->p.dst=D d->(fin y).tmps[d]? =match (G y)[k]? with | some v=>(if d < a0.tmps.size then D v else F) | none=>a0.tmps[d]? :=fun y k p d A M=>by
  rw[<-hf y];exact vg _ _ _ k p d (by simpa using A) M fun aV bX br aS e=>a7 k p A aV bX d (by simpa using br) aS e M
 have aL:∀y,(fin y).tmps.size=a0.tmps.size:=fun y=>by rw[<-hf y];exact(nh _ _ _).2.1
 have kn:∀y,(fin y).defers=a0.defers:=fun y=>by rw[<-hf y];exact(nh _ _ _).1
 have out:∀y (j:Nat),(∀(k:Nat) (p:de),ops[k]? =D p->p.dst≠D j)->(fin y).tmps[j]? =a0.tmps[j]? :=fun y j N=>by
  rw[<-hf y];refine(nh _ _ _).2.2 j fun p I=> ?_;obtain⟨k,A⟩:=fz I;exact N k p (by simpa using A)
 have bI:∀(b:Act),(b.put af.dst u).tmps.size=b.tmps.size:=fun b=>by cases af.dst <;> simp[a6]
 refine⟨?_, ?_, ?_, ?_⟩
 ·rw[kn]
  have:=h.kn;rw[kn] at this;rw[<-this];cases af.dst <;> rfl
 ·rw[bI,h.jn,aL,aL]
 ·intro j N
  rw[out ai j N,<-out x j N,<-h.out j N]
  cases M:af.dst with
  | none=>rfl
  | some c=>
   have:c≠j:=fun e=>N i af E (by rw[M,e]);simp[a6,nD this]
 intro k p d A I hL;by_cases e:i=k
 ·subst e
  rw[E] at A;cases A
  rw[at_ ai i af d E I,aG];have h1:((G x).set i v)[i]? =D v:=by
   have:i < (G x).length:=by rw[aB];exact al
   simp[this]
  rw[h1,I];rw[I] at a4;have ab:=congrArg (fun b:Act=>b.tmps[d]?) a4;have ag:=h.jn;have az:=aL x;simp only[a6,r8] at ab |-;simp only[ag,az] at ab |-;by_cases ax:d < a0.tmps.size
  ·simp[ax] at ab |-
   exact ab
  ·simp[ax]
 have aS:af.dst≠D d:=fun ak=>a7 k p A i af d E e ak I;have h1:(fin ai).tmps[d]? =(fin x).tmps[d]? :=by
  rw[at_ ai k p d A I,at_ x k p d A I,aG];simp[e]
 rw[h1,<-h.val k p d A I (up e hL)]
 cases M:af.dst with
 | none=>rfl
 | some c=>
  have:c≠d:=fun bn=>aS (by rw[M,bn]);simp[a6,nD this]
theorem pO{id:Nat}{a:Act}{w:ac}{V:Exit->Act->ac->Prop}{hR:Type}(G:hR->List ae)(R:hR->Array Bool->ac->Prop){fin:hR->Act}(hf:∀x,aT ops.toList (G x) a=fin x)(aD:P.follows .mixedOrders=S)(ah:g4 ops=S)(aB:∀x,(G x).length=ops.size)
  (bf:hR) (h0:R bf (eA ops.size Q) w.drew)
  (dH:∀x L W,L.size=ops.size->(∀i k,eB .any ops i k=S->L.getD i Q=S->L.getD k Q=S)->R x L W->∀i af,ops[i]? =D af->L.getD i S=Q->(∀k,eB .any ops i k=S->L.getD k Q=S)->
   ∀K:Act->ac->Prop,(∀W',R x (L.setIfInBounds i S) W'->K (fin x) W')->(∀v ai W',G ai=(G x).set i v->R ai (L.setIfInBounds i S) W'->K ((fin x).put af.dst v) W')->
    if eP af (yielded ops (fin x).tmps)=S then af.wp P (fin x) W K je else K ((fin x).put af.dst U) W)
  (aJ:∀x L W,R x L W->(∀k,k < ops.size->L.getD k Q=S)->V .normal (fin x) W):(j1 id ops S).wp P V a w:=by
 have bd:∀i,(eA ops.size Q).getD i Q=Q:=fun i=>by
  simp only[li,mq]
  split <;> rfl
 refine mo (fun L aw W=>L.size=ops.size/\(∀i k,eB .any ops i k=S->L.getD i Q=S->L.getD k Q=S)/\∃x,Fr ops (fin x) L aw/\R x L W) aD ⟨by simp,(fun i k _ h=>by rw[bd] at h;cases h),bf,Fr.start (hf bf),h0⟩ ?_ ?_
 ·rintro L aw W i ⟨hsz,aP,x,hF,aO⟩ ay
  obtain⟨bc,af,E,bj⟩:=mem_ready.1 ay;have ar:=dH x L W hsz aP aO i af E bc (fun k A=>cA ay A)
   (fun b W'=>(b=fin x/\R x (L.setIfInBounds i S) W')∨∃v ai,b=(fin x).put af.dst v/\G ai=(G x).set i v/\R ai (L.setIfInBounds i S) W') (fun W' h=> .inl ⟨rfl,h⟩) (fun v ai W' aG h=> .inr ⟨v,ai,rfl,aG,h⟩)
  obtain⟨ap,ak⟩:=hF.eval ah E ay;have key:∀u W',(((fin x).put af.dst u=fin x/\R x (L.setIfInBounds i S) W')∨∃v ai,(fin x).put af.dst u=(fin x).put af.dst v/\G ai=(G x).set i v/\R ai (L.setIfInBounds i S) W')->
    (L.setIfInBounds i S).size=ops.size/\(∀j k,eB .any ops j k=S->(L.setIfInBounds i S).getD j Q=S->(L.setIfInBounds i S).getD k Q=S)/\∃x,Fr ops (fin x) (L.setIfInBounds i S) (aw.put af.dst u)/\R x (L.setIfInBounds i S) W':=by
   intro u W' hh;refine⟨by simpa using hsz,(fun j k aA N=> ?_), ?_⟩
   ·by_cases e:i=j
    ·subst e
     exact ix (cA ay aA)
    ·exact ix (aP j k aA (up e N))
   rcases hh with ⟨aG,aZ⟩ | ⟨v,ai,a4,aG,aZ⟩
   ·exact⟨x,hF.put ah E aG,aZ⟩
   ·exact⟨ai,hF.vW hf aB ah E a4 aG,aZ⟩
  unfold wpOp;simp only[E];rw[ak];split
  ·rename_i aA
   rw[if_pos aA] at ar;refine .inl ?_;unfold Oper.wp at ar |-;rw[ap];generalize (execOp (fin x).eval af).run P W=r at ar |-
   cases r with
   | ok nx W'=>
    cases nx <;> simp only[Oper.upon] at ar |-
    case value v=>exact key v W' ar
    case skip=>exact key U W' ar
    case defer d=>
     exfalso;rcases ar with ⟨h1,_⟩ | ⟨v,ai,h1,_,_⟩ <;> (have:=congrArg Act.defers h1;cases M:af.dst <;> simp[M,a6] at this)
    case enter f args=>
     refine Calls.mono ar fun e a5 aN=> ?_
     cases e with
     | returned v=>exact key v a5 aN
     | panicked c=>exact aN.elim
     | outgrown=>
      obtain⟨_,_,h⟩:=aN;exact h.elim
    case row r args=>exact Rows.mono ar fun v a5 aN=>key v a5 aN
   | halt x W'=>cases x <;> simp only[Oper.upon] at ar |- <;> exact ar.elim
  rename_i aA
  rw[if_neg aA] at ar;exact key U W ar
 rintro L aw W ⟨hsz,aP,x,hF,aO⟩ ay;have hall:=lE ay hsz ((cu _ _).mp ah).1;have:aw=fin x:=by
  obtain⟨bK,d1⟩:=aw;have bJ:=hf x
  revert hF
  generalize fin x=fx;intro hF;obtain⟨bL,d2⟩:=fx;have h1:=hF.kn;simp only at h1;subst h1
  congr 1
  apply Array.ext_getElem?
  intro j;by_cases J:∀(k:Nat) (p:de),ops[k]? =D p->p.dst≠D j
  ·exact hF.out j J
  simp only[wj,wk] at J;obtain⟨k,p,A,I⟩:=J;exact hF.val k p j A I (hall k (hb.1 A).1)
 subst this;exact aJ x L W aO hall
def gv(P:Program)(ops:Array de)(fin:Act)(aW:ac->Prop)(W:ac):List de->List Bool->Prop
 | af::os,S::dq=>gv P ops fin aW W os dq/\∀K:Act->ac->Prop,(∀W',aW W'->K fin W')->
    if eP af (yielded ops fin.tmps)=S then af.wp P fin W K je else K (fin.put af.dst U) W
 | _::os,Q::dq=>gv P ops fin aW W os dq
 | _,_=>True
theorem gv.at_{fin:Act}{aW:ac->Prop}{W:ac}:∀{os:List de} {dq:List Bool},gv P ops fin aW W os dq->∀{i:Nat} {af:de},os[i]? =D af->dq[i]? =D S->∀K:Act->ac->Prop,(∀W',aW W'->K fin W')->
    if eP af (yielded ops fin.tmps)=S then af.wp P fin W K je else K (fin.put af.dst U) W
 | [],_,_,i,af,h,_=>by simp at h
 | _::_, [],_,i,af,_,h=>by simp at h
 | p::os,S::dq,h,0,af,E,_=>by
  simp at E;subst E;exact h.2
 | p::os,Q::dq,h,0,af,E,hf=>by simp at hf
 | p::os,S::dq,h,i+1,af,E,hf=>gv.at_ (os:=os) (dq:=dq) h.1 (by simpa using E) (by simpa using hf)
 | p::os,Q::dq,h,i+1,af,E,hf=>gv.at_ (os:=os) (dq:=dq) h (by simpa using E) (by simpa using hf)
theorem na{L:Array Bool}{i:Nat}(h:L.getD i S=Q):L.getD i Q=Q:=by
 simp only[Array.getD] at h |-
 split at h <;> simp_all
def mK(ops:Array de):List Nat->List Nat->Bool
 | _, []=>S
 | aR,i::is=>(aR.any fun k=>eB .any ops k i) && mK ops (i::aR) is
theorem mL{L:Array Bool}(aP:∀i k,eB .any ops i k=S->L.getD i Q=S->L.getD k Q=S):∀(is aR:List Nat),mK ops aR is=S->(∀k ∈ aR,L.getD k Q=S)->∀i ∈ is,L.getD i Q=S
 | [],_,_,_=>by simp
 | i::is,aR,h,ha=>by
  obtain⟨h1,ab⟩:=(cu _ _).mp h;obtain⟨k,A,aA⟩:=List.any_eq_true.1 h1;have al:=aP k i aA (ha k A);have:=mL aP is (i::aR) ab (by intro x am;rcases dC.1 am with rfl | am;exact al;exact ha x am);intro x am;rcases dC.1 am with rfl | am
  ·exact al
  ·exact this x am
def chainB(ops:Array de)(T aX:List Nat)(a1 f1:List Bool):Bool:=
 (T.all fun t=>Nat.blt t ops.size) && (c4 T.length).all (fun q=>f4 q 0 || eB .any ops (T.getD q 0) (T.getD (q-1) 0)) && mK ops [T.getD 0 0] aX &&
 (c4 ops.size).all (fun i=>T.contains i || a1.getD i Q && (aX.contains i || f1.getD i Q)) && decide T.Nodup
def gj(x:Nat->ae)(j:Nat)(v:ae):Nat->ae:=fun k=>bif f4 k j then v else x k
theorem mb{id:Nat}{a:Act}{w:ac}{V:Exit->Act->ac->Prop}(T aX:List Nat)(a1 f1:List Bool)(G:(Nat->ae)->List ae)(aI:Nat->(Nat->ae)->ac->Prop){fin:(Nat->ae)->Act}(hf:∀x,aT ops.toList (G x) a=fin x)(aD:P.follows .mixedOrders=S)(ah:g4 ops=S)(aB:∀x,(G x).length=ops.size)
  (hc:chainB ops T aX a1 f1=S) (bF:∀x j t v,T[j]? =D t->G (gj x j v)=(G x).set t v) (h0:aI 0 (fun _=>U) w.drew)
  (hA:∀x W,aI 0 x W->gv P ops (fin x) (aI 0 x) W ops.toList a1)
  (aK:∀j x W,0 < j->j<=T.length->aI j x W->gv P ops (fin x) (aI j x) W ops.toList f1)
  (bi:∀j t x W,T[j]? =D t->aI j x W->∀af,ops[t]? =D af->∀K:Act->ac->Prop,(∀v W',aI (j+1) (gj x j v) W'->K ((fin x).put af.dst v) W')->
    if eP af (yielded ops (fin x).tmps)=S then af.wp P (fin x) W K je else K ((fin x).put af.dst U) W)
  (aJ:∀x W,aI T.length x W->V .normal (fin x) W):(j1 id ops S).wp P V a w:=by
 unfold chainB at hc;obtain⟨hc,b8⟩:=(cu _ _).mp hc;obtain⟨hc,bC⟩:=(cu _ _).mp hc;obtain⟨hc,bV⟩:=(cu _ _).mp hc;obtain⟨c1,c2⟩:=(cu _ _).mp hc;have hnd:T.Nodup:=of_decide_eq_true b8;have bu:∀q t,T[q]? =D t->t < ops.size:=fun q t h=>Nat.le_of_ble_eq_true (dM.1 c1 t (cH h));have bG:∀q t s,T[q+1]? =D t->T[q]? =D s->eB .any ops t s=S:=fun q t s h1 ab=>by
  have ag:=(bM.1 h1).1;have h:=dM.1 c2 (q+1) (fl.2 ag);simp only[cf,h1,Nat.add_sub_cancel,ab,Option.getD_some] at h;rcases gJ _ _ |>.mp h with h | h
  ·simp at h
  ·exact h
 have bd:∀i,(eA ops.size Q).getD i Q=Q:=fun i=>by
  simp only[li,mq]
  split <;> rfl
 refine pO G (fun x L W=>∃j,j<=T.length/\(∀q t,T[q]? =D t->(L.getD t Q=S↔q < j))/\aI j x W) hf aD ah aB (fun _=>U) ⟨0,Nat.zero_le _,fun q t _=>by rw[bd];simp,h0⟩ ?_ ?_
 ·rintro x L W hsz aP ⟨j,N,aE,hst⟩ i af E bc bj K a8 bp
  have al:=(hb.1 E).1;have bE:(L.setIfInBounds i S).getD i Q=S:=by
   have:i < L.size:=by omega
   simp[this]
  have be:L.getD i Q=Q:=na bc;by_cases a9:∃q:Nat,T[q]? =D i
  ·obtain⟨q,J⟩:=a9
   have h1:¬q < j:=fun h=>by rw[(aE q i J).2 h] at be;cases be
   have ab:q=j:=by
    cases q with
    | zero=>omega
    | succ q=>
     have bA:=(bM.1 J).1;obtain⟨s,aF⟩:∃s,T[q]? =D s:=⟨_,bb (by omega)⟩;have:=(aE q s aF).1 (bj s (bG q i s J aF));omega
   subst ab;have bA:=(bM.1 J).1;refine bi q i x W J hst af E K fun v W' h=>bp v (gj x q v) W' (bF x q i v J) ⟨q+1,by omega,fun cM bm a3=> ?_,h⟩;by_cases e:i=bm
   ·subst e
    have:cM=q:=by
     have ao:=(bM.1 a3);have a2:=(bM.1 J);exact(List.getElem_inj hnd).1 (ao.2.trans a2.2.symm)
    subst this;rw[bE];simp
   rw[getD_set_ne Q e,aE cM bm a3];have:cM≠q:=fun ak=>by rw[ak,J] at a3;exact e (cn a3)
   omega
  have bw:T.contains i=Q:=by
   rw[<-Bool.not_eq_true,j3];intro bv;obtain⟨q,J⟩:=fz bv;exact a9 ⟨q,J⟩
  have az:=dM.1 bC i (fl.2 al);rw[bw,Bool.false_or,cu] at az;have key:∀W',aI j x W'->K (fin x) W':=fun W' h=>a8 W' ⟨j,N,fun q t J=>by
   have:i≠t:=fun e=>a9 ⟨q,by rw[e];exact J⟩;rw[getD_set_ne Q this];exact aE q t J,h⟩
  have bh:∀f:List Bool,f.getD i Q=S->f[i]? =D S:=fun f h=>by
   rw[cf] at h
   cases J:f[i]? with
   | none=>rw[J] at h;cases h
   | some b=>rw[J] at h;simp at h;rw[h]
  cases j with
  | zero=>exact(hA x W hst).at_ (by simpa using E) (bh _ az.1) K key
  | succ j=>
   refine(aK (j+1) x W (by omega) N hst).at_ (by simpa using E) (bh _ ?_) K key;obtain⟨s,aF⟩:∃s,T[0]? =D s:=⟨_,bb (by omega)⟩;have bD:T.getD 0 0=s:=by rw[cf,aF];rfl
   rcases gJ _ _ |>.mp az.2 with ax | ax
   ·exfalso
    rw[j3] at ax;have:=mL aP aX [T.getD 0 0] bV (by intro k A;rw[List.mem_singleton] at A;subst A;rw[bD];exact(aE 0 s aF).2 (by omega)) i ax;rw[be] at this;cases this
   ·exact ax
 rintro x L W ⟨j,N,aE,hst⟩ hall;have:j=T.length:=by
  by_cases h:j < T.length
  ·exfalso
   obtain⟨s,aF⟩:∃s,T[j]? =D s:=⟨_,bb h⟩;have:=(aE j s aF).1 (hall s (bu j s aF));omega
  ·omega
 subst this;exact aJ x W hst
theorem B4{id:Nat}{a:Act}{w:ac}{V:Exit->Act->ac->Prop}(G:List ae)(aH:ac->Prop){fin:Act}(hf:aT ops.toList G a=fin)(aD:P.follows .mixedOrders=S)(ah:g4 ops=S)(aB:G.length=ops.size)
  (h0:aH w.drew) (dH:∀W,aH W->gv P ops fin aH W ops.toList (f0 ops.size S)) (aJ:∀W,aH W->V .normal fin W):(j1 id ops S).wp P V a w:=by
 refine pO (hR:=Unit) (fun _=>G) (fun _ _ W=>aH W) (fun _=>hf) aD ah (fun _=>aB) () h0 (fun _ L W _ _ h i af E _ _ K a8 _=> ?_) (fun _ _ W h _=>aJ W h);exact(dH W h).at_ (by simpa using E) (by rw[List.getElem?_replicate,if_pos (hb.1 E).1]) K a8
theorem dR{id:Nat}{a:Act}{w:ac}{V:Exit->Act->ac->Prop}(G:List ae)(aH:ac->Prop){fin:Act}(hf:aT ops.toList G a=fin)(aD:P.follows .mixedOrders=S)(ah:g4 ops=S)(aB:G.length=ops.size)
  (h0:aH w.drew) (h:∀W,aH W->gv P ops fin aH W ops.toList (f0 ops.size S)/\V .normal fin W):(j1 id ops S).wp P V a w:=
 B4 G aH hf aD ah aB h0 (fun W x=>(h W x).1) (fun W x=>(h W x).2)
theorem bW{id:Nat}{a:Act}{w:ac}{V:Exit->Act->ac->Prop}(G:List ae){fin:Act}(hf:aT ops.toList G a=fin)(aD:P.follows .mixedOrders=S)(ah:g4 ops=S)(aB:G.length=ops.size)
  (h:∀W,Below w.heap.size w W->gv P ops fin (fun W=>Below w.heap.size w W) W ops.toList (f0 ops.size S)/\V .normal fin W):(j1 id ops S).wp P V a w:=
 dR G _ hf aD ah aB (Below.refl _ _).drew h
end
end
section
section
open Go.RowKit
def bO(s:Nat->ae)(i:Nat)(v:ae):Nat->ae:=fun j=>bif f4 j i then v else s j
theorem m7{j i:Nat}:f4 j i=Q↔j≠i:=by rw[<-Bool.not_eq_true,Nat.beq_eq]
theorem mm(s:Nat->ae)(i:Nat)(v:ae):bO s i v i=v:=by simp[bO]
theorem g9{s:Nat->ae}{i j:Nat}{v:ae}(h:j≠i):bO s i v j=s j:=by
 have:f4 j i=Q:=m7.2 h;simp[bO,this]
def pk(l:List ae)(i:Nat):ae:=l.getD i U
structure cL(n:Nat)(G:List (Option ae))(L:Array Bool)(s:Nat->ae):Prop where
 aL:L.size=n
 val:∀i v,G[i]? =D (D v)->L.getD i Q=S->s i=v
theorem cL.start(n:Nat)(G:List (Option ae))(s:Nat->ae):cL n G (eA n Q) s:=
 ⟨by simp,fun i v _ hL=>by simp only[li,mq] at hL;split at hL <;> simp at hL⟩
theorem cL.v{n:Nat}{G:List (Option ae)}{L:Array Bool}{s:Nat->ae}(h:cL n G L s){i:Nat}{v:ae}(hL:L.getD i Q=S)(V:G[i]? =D (D v)):s i=v:=h.val i v V hL
theorem cL.dt{n:Nat}{G:List (Option ae)}{L:Array Bool}{s:Nat->ae}(h:cL n G L s){j:Nat}{v:ae}(e:s j=v):cL n G L (bO s j v):=by
 have:bO s j v=s:=by
  funext k
  by_cases E:k=j
  ·subst E
   rw[mm,e]
  ·rw[g9 E]
 rw[this];exact h
theorem cL.put{n:Nat}{G:List (Option ae)}{L:Array Bool}{s:Nat->ae}(h:cL n G L s){i:Nat}{v:ae}(V:∀u,G[i]? =D (D u)->u=v):cL n G (L.setIfInBounds i S) (bO s i v):=by
 refine⟨by simpa using h.aL, ?_⟩;intro j u P hL;by_cases ap:j=i
 ·subst ap
  rw[mm,V u P]
 rw[g9 ap];exact h.val j u P (up (fun e=>ap e.symm) hL)
def iA(A ai:ac->Prop)(C:ae->ac->Prop)(T:ac->Prop)(aN cR aO:Bool)(v:ae)(W:ac):Prop:=
 match aO,cR,aN with
 | true,_,_=>T W
 | false,S,_=>C v W
 | false,Q,S=>ai W
 | false,Q,Q=>A W
theorem set_self{L:Array Bool}{i n:Nat}(h:L.size=n)(al:i < n):(L.setIfInBounds i S).getD i Q=S:=by
 subst h;simp[al]
theorem gE{L:Array Bool}{i j:Nat}(h:i≠j):(L.setIfInBounds i S).getD j Q=L.getD j Q:=getD_set_ne Q h
end
section
open Go.RowKit Go.Maps
theorem pH(W:Nat)(mask:List Int)(i q:Nat):(eb W mask i++fg W mask i q).length<=4*i+q:=by
 have c:∀i q,(fg W mask i q).length<=q:=by
  intro i q;unfold fg;rw[List.length_map];exact Nat.le_trans (wz _ _) (by simp)
 have p:∀n,(eb W mask n).length<=4*n:=by
  intro n
  induction n with
  | zero=>simp[eb]
  | succ n aP=>
   rw[pG,gL];have:=c n 4;omega
 rw[gL];have:=p i;have:=c i q;omega
theorem A4{W:Nat}(hW:0 < W)(mask:List Int)(i q:Nat):iR W i q ∉ eb W mask i++fg W mask i q:=by
 intro h;rcases js.1 h with h | h
 ·obtain⟨j,P,k,_,_,e⟩:=va.1 h
  have ab:=vP hW P (k:=k) (m:=q);rw[<-e] at ab;exact gg _ ab
 obtain⟨k,E,_,e⟩:=oU.1 h;have:=congrArg (fun t:ah=>t.2.2) e;simp only[iR] at this;omega
theorem uU{w:ac}{z n aL:Nat}{e:dK}{v:ae}{J:List ae}(h:w.ownsRow z e aL v n J):∃A c,v= O A n c/\(A=F->c=0):=by
 rcases h.2 with ⟨rfl,h0⟩ | ⟨g,ao,ak,rfl,_⟩
 ·exact⟨F,0,by rw[h0],fun _=>rfl⟩
 ·exact⟨_,_,rfl,fun h=>by cases h⟩
structure gO(w:ac)(W H:Nat)(aS bD:ae)(L:List ah)(m:Nat)(bJ:ae)(wr:ac):Prop where
 box:wr.heap[w.heap.size]? =D (Y #[B o W, B o H,aS,bD] 25 (0,0))
 cj:eE wr (w.heap.size+1+1+1) (w.heap.size+1) (w.heap.size+1+1) W H aS bD bJ L m 0 (fun _=>F)
 own:wr.ownsRow w.heap.size 53 3 bJ L.length (bn L)
 bel:Below w.heap.size w wr
theorem gO.below{w:ac}{W H:Nat}{aS bD bJ:ae}{L:List ah}{m:Nat}{wr Z:ac}(h:gO w W H aS bD L m bJ wr)(N:Below wr.heap.size wr Z):gO w W H aS bD L m bJ Z:=
 ⟨aG h.box N (am h.box),h.cj.below N,bo h.own N,ax h.bel N⟩
theorem dg{w:ac}{z g:Nat}{e:dK}{aL n:Nat}{v:ae}{J:List ae}(h:w.ownsRow z e aL v n J)(a:∀k,v.ownBlock=D k->k≠g)(i:Nat)(u:ae):(w.setCell ⟨g,i,F⟩ u).ownsRow z e aL v n J:=by
 refine⟨h.1, ?_⟩;rcases h.2 with h0 | ⟨k,ao,ak,rfl,h1,ab,rest⟩
 ·exact .inl h0
 ·exact .inr ⟨k,ao,ak,rfl,h1,(Below.heap_setCell w ⟨g,i,F⟩ u k (a k rfl)).trans ab,rest⟩
theorem im{w:ac}{z aL n:Nat}{e:dK}{v:ae}{J:List ae}(h:w.ownsRow z e aL v n J):∀j,v.ownBlock=D j->∃cs,w.heap[j]? =D (.cells cs e (0,0)):=by
 intro j P;rcases h.2 with ⟨rfl,_⟩ | ⟨k,ao,ak,rfl,h1,ab,_⟩
 ·simp[Value.ownBlock] at P
 obtain rfl:k=j:=by simpa[Value.ownBlock] using P
 exact⟨ak,ab⟩
theorem dy{w:ac}{z aL n g:Nat}{e t:dK}{v:ae}{J:List ae}{cs:Array ae}(h:w.ownsRow z e aL v n J)(a:w.heap[g]? =D (.cells cs t (0,0)))(M:e≠t):v.ownBlock≠D g:=by
 intro E;obtain⟨aF,ab⟩:=im h g E;rw[ab] at a;simp at a;exact M a.2
theorem co.is{aE:Type}{k:fU aE}{w:ac}{b n:Nat}{f:aE->Option Int}(h:co k w b n f):∃I c,w.heap[b]? =D (.map I c):=by
 obtain⟨T,⟨I,c,h1,_⟩,_⟩:=h;exact⟨I,c,h1⟩
theorem eN{w:ac}{z aL n g:Nat}{e:dK}{v:ae}{J:List ae}(h:w.ownsRow z e aL v n J)(a:∃I c,w.heap[g]? =D (.map I c)):v.ownBlock≠D g:=by
 intro E;obtain⟨aF,ab⟩:=im h g E;obtain⟨I,c,a⟩:=a;rw[ab] at a;cases a
theorem k1{w:ac}{g b:Nat}{cs:Array ae}{t:dK}{aH:Nat×Nat}(h:w.heap[g]? =D (.cells cs t aH))(a:∃I c,w.heap[b]? =D (.map I c)):D g≠D b:=by
 intro e;cases e
 obtain⟨I,c,a⟩:=a;rw[h] at a;cases a
theorem uR{w:ac}{z aL n:Nat}{e:dK}{v:ae}{J:List ae}(h:w.ownsRow z e aL v n J){k:Nat}(E:v.ownBlock=D k):z<=k/\k < w.heap.size:=h.lt k E
structure mB(w:ac)(W H:Nat)(aS bD:ae)(L:List ah)(m fZ:Nat)(bv bs q:Nat)(wr:ac):Prop where
 box:wr.heap[w.heap.size]? =D (Y #[B o W, B o H,aS,bD] 25 (0,0))
 num:co ei wr (w.heap.size+1) m (eH (L++ [(((bv:Nat):Int),((bs:Nat):Int),(q:Int))]))
 d9:co e8 wr (w.heap.size+1+1) 0 (fun _=>F)
 ay:wr.heap[fZ]? =D (Y #[B o bv, B o bs, B o q] 53 (0,0))
 bel:Below w.heap.size w wr
abbrev pE(w:ac)(W H:Nat)(aS bD v:ae):Obj:= Y #[B o W, B o H,aS,bD,v, .map (D (w.heap.size+1)), .map (D (w.heap.size+1+1))] 73 (0,0)
structure nO(w:ac)(W H:Nat)(aS bD:ae)(L:List ah)(m fZ bv bs q:Nat)(bJ v:ae)(wr:ac):Prop where
 r:mB w W H aS bD L m fZ bv bs q wr
 f:∃g c,v= O (D ⟨g,0,F⟩) (L.length+1) c
 af:wr.ownsRow w.heap.size 53 3 v (L.length+1) (bn L++ [B o bv, B o bs, B o q])
 b:wr.heap[w.heap.size+1+1+1]? =D (pE w W H aS bD bJ)
structure nP(w:ac)(W H:Nat)(aS bD:ae)(L:List ah)(m fZ bv bs q:Nat)(bJ v:ae)(wr:ac):Prop where
 r:mB w W H aS bD L m fZ bv bs q wr
 af:wr.ownsRow w.heap.size 53 3 v (L.length+1) (bn L++ [B o bv, B o bs, B o q])
 b:wr.heap[w.heap.size+1+1+1]? =D (pE w W H aS bD v)
section
variable {w:ac} {W H:Nat} {aS bD bJ v:ae} {L:List ah} {m fZ bv bs q:Nat} {wr K y:ac}
theorem gO.pD(h:gO w W H aS bD L m bJ K)(a:K.drew.grownBy y (D (w.heap.size+1))):y.ownsRow w.heap.size 53 3 bJ L.length (bn L):=
 qh (w:=K.drew) h.own a (.inr (eN h.own h.cj.num.is))
theorem gO.wY(h:gO w W H aS bD L m bJ K)(a:K.drew.grownBy y (D (w.heap.size+1))):y.heap[w.heap.size+1+1+1]? =D (pE w W H aS bD bJ):=
 (a.block _ (am h.cj.bT) (fun e=>k1 h.cj.bT h.cj.num.is e)).trans h.cj.bT
theorem gO.zU(h:gO w W H aS bD L m bJ K)(a:K.drew.grownBy y (D (w.heap.size+1)))(ht:K.heap[fZ]? =D (Y #[B o bv, B o bs, B o q] 53 (0,0))){aC:Nat}
  (hn:co ei y (w.heap.size+1) aC (eH (L++ [(((bv:Nat):Int),((bs:Nat):Int),(q:Int))]))):mB w W H aS bD L aC fZ bv bs q y where
 box:=(a.block _ (am h.box) (fun e=>k1 h.box h.cj.num.is e)).trans h.box
 num:=hn
 d9:=h.cj.d9.heap (a.block _ h.cj.d9.lt (fun e=>by injection e with e;omega))
 ay:=(a.block _ (am ht) (fun e=>k1 ht h.cj.num.is e)).trans ht
 bel:=(show Below w.heap.size w K.drew from h.bel.drew).grown a h.bel.size (fun k E=>by cases E;omega)
theorem mB.sC{y:ac}(h:mB w W H aS bD L m fZ bv bs q y)(N:y.heap[w.heap.size+1+1+1]? =D (pE w W H aS bD bJ))(an:y.ownsRow w.heap.size 53 3 bJ L.length (bn L))(aK:∀k,bJ.ownBlock=D k->k≠fZ)
  (v2:ae) (R:ac) {af:Obj} (h1:R.ownsRow w.heap.size 53 3 v2 (L.length+1) (bn L++ [B o bv, B o bs, B o q])) (ab:Below w.heap.size (y.alloc af).drew R) (ag:fm (y.alloc af).drew R bJ v2):nO w W H aS bD L m fZ bv bs q bJ v2 R:=by
 have key:∀{g:Nat} {x:Obj},y.heap[g]? =D x->bJ.ownBlock≠D g->R.heap[g]? =D x:=by
  intro g x a M;have az:(y.alloc af).drew.heap[g]? =D x:=aW a af;exact(ag.grown.block g (am az) (fun e=>M e.symm)).trans az
 have aB:∀{g:Nat},g < y.heap.size->bJ.ownBlock≠D g->R.heap[g]? =y.heap[g]? :=by
  intro g a M;obtain⟨x,aA⟩:∃x,y.heap[g]? =D x:=⟨_,r7 a⟩;rw[aA];exact key aA M
 obtain⟨g,c,_,V,_⟩:=dF h1 (Nat.succ_pos _);refine⟨⟨key h.box (dy an h.box (by decide)),h.num.heap (aB h.num.lt (eN an h.num.is)),h.d9.heap (aB h.d9.lt (eN an h.d9.is)),key h.ay (fun e=>aK _ e rfl), ?_⟩,⟨g,c,V⟩,h1,key N (dy an N (by decide))⟩;have aI:Below w.heap.size w (y.alloc af).drew:=(h.bel.alloc h.bel.size af).drew;exact aI.trans ab
theorem nO.store(h:nO w W H aS bD L m fZ bv bs q bJ v wr):nP w W H aS bD L m fZ bv bs q bJ v (wr.setCell ⟨w.heap.size+1+1+1,4,F⟩ v):=by
 have M:∀{g:Nat} {cs:Array ae} {t:dK},wr.heap[g]? =D (.cells cs t (0,0))->t≠73->g≠w.heap.size+1+1+1:=by
  intro g cs t a ht e;subst e;have:=h.b;rw[a] at this;simp at this;exact ht this.2
 have aw:∀{g:Nat},(∃I c,wr.heap[g]? =D (.map I c))->(wr.setCell ⟨w.heap.size+1+1+1,4,F⟩ v).heap[g]? =wr.heap[g]? :=by
  rintro g ⟨I,c,a⟩;have aM:g≠w.heap.size+1+1+1:=by
   intro e;subst e;have:=h.b;rw[a] at this;cases this
  exact(eV a (p:=⟨w.heap.size+1+1+1,4,F⟩) aM v).trans a.symm
 refine⟨⟨eV h.r.box (p:=⟨w.heap.size+1+1+1,4,F⟩) (M h.r.box (by decide)) v,h.r.num.heap (aw h.r.num.is),h.r.d9.heap (aw h.r.d9.is),eV h.r.ay (p:=⟨w.heap.size+1+1+1,4,F⟩) (M h.r.ay (by decide)) v,h.r.bel.setCell (by show w.heap.size<=w.heap.size+1+1+1;omega) _⟩, ?_, ?_⟩
 ·have h1:=dy h.af h.b (by decide)
  exact dg h.af (fun k E e=>h1 (by rw[E,e])) 4 v
 ·exact bq h.b 4 v
theorem nP.lay(h:nP w W H aS bD L m fZ bv bs q bJ v wr):gO w W H aS bD (L++ [(((bv:Nat):Int),((bs:Nat):Int),(q:Int))]) m v wr:=
 ⟨h.r.box,⟨h.b,h.r.num,h.r.d9⟩,by rw[gL,jl];exact h.af,h.r.bel⟩
end
theorem jb{L:Array Bool}{i n:Nat}(ar:L.size=n)(al:i < n)(h:L.getD i S=Q):L.getD i Q=Q:=by
 subst ar;simp[al] at h |-;exact h
def lz(L:Array Bool):Prop:=(L.getD 7 Q=S->L.getD 4 Q=S/\L.getD 6 Q=S)/\(L.getD 10 Q=S->L.getD 7 Q=S)/\(L.getD 6 Q=S->L.getD 5 Q=S)
theorem xf:lz (eA 11 Q):=by
 unfold lz;refine⟨?_, ?_, ?_⟩ <;> intro h <;> simp at h
theorem lz.fX{L:Array Bool}{i:Nat}(h:lz L)(h1:i≠7)(ab:i≠10)(ag:i≠6):lz (L.setIfInBounds i S):=by
 unfold lz at*;rw[gE h1,gE ab,gE ag];exact⟨fun av=>⟨ix (h.1 av).1,(h.1 av).2⟩,h.2.1,fun aJ=>ix (h.2.2 aJ)⟩
theorem iA.k7{A ai:ac->Prop}{C:ae->ac->Prop}{T:ac->Prop}{L:Array Bool}{i:Nat}{s aD:Nat->ae}{W:ac}(h:iA A ai C T (L.getD 6 Q) (L.getD 7 Q) (L.getD 10 Q) (s 7) W)(h1:i≠6)(ab:i≠7)(ag:i≠10)(ar:aD 7=s 7):
  iA A ai C T ((L.setIfInBounds i S).getD 6 Q) ((L.setIfInBounds i S).getD 7 Q) ((L.setIfInBounds i S).getD 10 Q) (aD 7) W:=by
 rw[gE h1,gE ab,gE ag,ar];exact h
end
end
section
set_option maxRecDepth 100000
section
open Go.RowKit Go.Maps
structure f7(L:List ah)(c:aO->Bool)(a:ah)(q:List ah)(i k:Nat):Prop where
 eR:q.Nodup
 fst:a ∈ q
 sub:∀t ∈ q,t ∈ L/\e5 L c a t
 cl:∀j t m,q[j]? =D t->m < 3->(j < i∨j=i/\m < k)->c (bk t m)=S->bE t m ∈ L->bE t m ∈ q
section
variable {L:List ah} {c:aO->Bool} {a t:ah} {q:List ah} {i k:Nat}
theorem f7.start(a0:a ∈ L):f7 L c a [a] 0 0:=
 ⟨by simp,by simp,fun t ht=>by simp at ht;subst ht;exact⟨a0, .refl⟩,fun j t m _ _ h=>by omega⟩
theorem f7.len(h:f7 L c a q i k):q.length<=L.length:=ik h.eR fun t ht=>(h.sub t ht).1
theorem f7.skip(h:f7 L c a q i k)(ht:q[i]? =D t)(hn:c (bk t k)=S->bE t k ∈ L->bE t k ∈ q):f7 L c a q i (k+1):=by
 refine⟨h.eR,h.fst,h.sub,fun j u m M G cJ h1 ab=> ?_⟩;by_cases hc:j < i∨j=i/\m < k
 ·exact h.cl j u m M G hc h1 ab
 have ag:j=i/\m=k:=by omega
 obtain⟨rfl,rfl⟩:=ag;rw[ht] at M;cases M
 exact hn h1 ab
theorem f7.add(h:f7 L c a q i k)(ht:q[i]? =D t)(N:k < 3)(h1:c (bk t k)=S)(ab:bE t k ∈ L)(ag:bE t k ∉ q):f7 L c a (q++ [bE t k]) i (k+1):=by
 have al:=(bM.1 ht).1;refine⟨?_,by simp[h.fst], ?_, ?_⟩
 ·rw[List.nodup_append]
  exact⟨h.eR,by simp,fun x aR y cW=>by simp at cW;subst cW;exact fun e=>ag (e▸aR)⟩
 ·intro u aP
  rcases js.1 aP with aP | aP
  ·exact h.sub u aP
  simp at aP;subst aP;exact⟨ab, .step (h.sub t (cH ht)).2 N h1 ab⟩
 intro j u m M G cJ dE dG;by_cases dQ:j < q.length
 ·rw[hS dQ] at M
  by_cases hc:j < i∨j=i/\m < k
  ·exact List.mem_append_left _ (h.cl j u m M G hc dE dG)
  have az:j=i/\m=k:=by omega
  obtain⟨rfl,rfl⟩:=az;rw[ht] at M;cases M
  simp
 ·omega
theorem f7.next(h:f7 L c a q i 3):f7 L c a q (i+1) 0:=
 ⟨h.eR,h.fst,h.sub,fun j u m M G cJ h1 ab=>h.cl j u m M G (by omega) h1 ab⟩
theorem f7.done(h:f7 L c a q i 0)(al:q.length<=i):kM L c a q:=
 ⟨h.eR,h.fst,fun t ht=>(h.sub t ht).2,fun t ht m G h1 ab=>by
  obtain⟨j,M,e⟩:=List.getElem_of_mem ht;exact h.cl j t m (by rw[bb M,e]) G (by omega) h1 ab⟩
end
def jW(q:List ah)(t:ah):Option Int:=if t ∈ q then D 1 else F
theorem Cd(q:List ah)(t:ah):(jW q t).getD 0=if t ∈ q then 1 else 0:=by unfold jW;split <;> rfl
theorem vw(q:List ah)(t:ah):dX (jW q) t 1=jW (q++ [t]):=by
 funext x
 unfold dX jW;by_cases aR:x=t
 ·subst aR
  simp
 ·simp[aR]
theorem Cc:jW []=fun _=>F:=by funext t;simp[jW]
end
section
open Go.RowKit Go.Maps
theorem DC{bm:Type}{k:fU bm}{w:ac}{b n:Nat}{f:bm->Option Int}[DecidableEq bm]{ops:Array de}{rest:List de}{af:de}{a:Act}{cg:Exit->Act->ac->Prop}(J:af.guard=F)(m x v:Operand)(d1:af.op=Op.insert k.T m x v)
  (h:co k w b n f) (G:a.eval m= .map (D b)) (hn:n < maxLen) (c:bm) (hc:k.ok c) (z:Int) (aR:a.eval x=k.enc c) (bO:a.eval v= .int o z) (aI:(Lit.int o z).wf=S)
  (dH:∀Z,co k Z b (n+1) (dX f c z)->w.grownBy Z (D b)->wpList aj ops cg rest (a.put af.dst U) Z):wpList aj ops cg (af::rest) a w:=by
 obtain⟨Z,d2,cN,ct⟩:=h.put hn hc aI;refine wpList_plain J fun ea dJ=> ?_;unfold Oper.wp;simp[execOp,d1,G,aR,bO,d2,Result.andThen];exact dJ _ _ (dH Z cN ct)
def su(w:ac)(g:Nat)(cR:Array ae)(c:aO->Bool)(L:List ah):Prop:=
 ∀(W':ac) (t:ah) (i:Nat),t ∈ L->i < 3->Below w.heap.size w W'->bB aj g (#[bS (bk t i)]++cR) W' fun r dB=>r= .returned (.bool (c (bk t i)))/\Below W'.heap.size W' dB
structure ff(w:ac)(aJ:Nat)(L:List ah)(c:aO->Bool)(a:ah)(q:List ah)(i k:Nat)(v:ae)(wr:ac):Prop where
 seen:co ei wr aJ q.length (jW q)
 own:wr.ownsRow w.heap.size 53 3 v q.length (bn q)
 bel:Below w.heap.size w wr
 pq:w.heap.size<=aJ
 inv:f7 L c a q i k
section
variable {w wr Z I:ac} {aJ:Nat} {L:List ah} {c:aO->Bool} {a t:ah} {q:List ah} {i k:Nat} {v a8:ae}
theorem ff.below(h:ff w aJ L c a q i k v wr)(aE:Below wr.heap.size wr Z):ff w aJ L c a q i k v Z:=
 ⟨h.seen.stay aE,bo h.own aE,ax h.bel aE,h.pq,h.inv⟩
theorem ff.dt(h:ff w aJ L c a q i k v wr){cX cY:Nat}(al:f7 L c a q cX cY):ff w aJ L c a q cX cY v wr:=⟨h.seen,h.own,h.bel,h.pq,al⟩
theorem ff.pD(h:ff w aJ L c a q i k v wr)(J:wr.grownBy I (D aJ)):I.ownsRow w.heap.size 53 3 v q.length (bn q):=
 qh (w:=wr) h.own J (.inr (eN h.own h.seen.is))
theorem ff.sH(h:ff w aJ L c a q i k v wr)(J:wr.grownBy I (D aJ)):Below w.heap.size w I:=
 h.bel.grown J h.bel.size (fun k N=>by cases N;exact h.pq)
theorem ff.qJ(h:ff w aJ L c a q i k v wr)(J:wr.grownBy I (D aJ)){b j:Nat}{u:ae}(hc:wr.cell? ⟨b,j,F⟩=D u):I.cell? ⟨b,j,F⟩=D u:=by
 have dT:=iS wr _ hc;have bH:b≠aJ:=by
  rintro rfl;obtain⟨ee,cl,G⟩:=h.seen.is;simp[World.cell?,G] at hc
 exact(ws (J.block b dT (by simpa using bH))).trans hc
theorem ff.add(h:ff w aJ L c a q i k v wr)(J:wr.grownBy I (D aJ))(ht:q[i]? =D t)(N:k < 3)(h1:c (bk t k)=S)(ab:bE t k ∈ L)(ag:bE t k ∉ q)(G:co ei I aJ (q.length+1) (dX (jW q) (bE t k) 1))
  (bT:Z.ownsRow w.heap.size 53 3 a8 (q.length+1) (bn q++ [.int o (bE t k).1, .int o (bE t k).2.1, .int o (bE t k).2.2])) (bU:Below w.heap.size I Z) (bV:fm I Z v a8):ff w aJ L c a (q++ [bE t k]) i (k+1) a8 Z:=by
 have dV:=h.pD J;refine⟨?_, ?_,(h.sH J).trans bU,h.pq,h.inv.add ht N h1 ab ag⟩
 ·rw[gL,<-vw]
  exact G.heap (bV.grown.block aJ G.lt (fun e=>eN dV G.is e.symm))
 rw[gL,jl];exact bT
end
theorem q8{wr I:ac}{aJ b j:Nat}{u:ae}(J:wr.grownBy I (D aJ))(bH:b≠aJ)(hc:wr.cell? ⟨b,j,F⟩=D u):I.cell? ⟨b,j,F⟩=D u:=
 (ws (J.block b (iS wr _ hc) (by simpa using bH))).trans hc
theorem yY(p0 cz b9 dZ dO eJ fw kz kA kB ku kv:ae)(w:ac):(hg 145 (aq #[p0,cz,b9,dZ,dO,eJ,fw,kz,kA,kB,ku,kv]) (.int o 0)).run aj w= .ok (aq #[p0,cz,b9,dZ]) w:=by first | rfl | kernel_rfl | simp[hg,go_sem]
theorem yZ(p0 cz b9 dZ dO eJ fw kz kA kB ku kv:ae)(w:ac):(hg 145 (aq #[p0,cz,b9,dZ,dO,eJ,fw,kz,kA,kB,ku,kv]) (.int o 1)).run aj w= .ok (aq #[dO,eJ,fw,kz]) w:=by first | rfl | kernel_rfl | simp[hg,go_sem]
theorem y2(p0 cz b9 dZ dO eJ fw kz kA kB ku kv:ae)(w:ac):(hg 145 (aq #[p0,cz,b9,dZ,dO,eJ,fw,kz,kA,kB,ku,kv]) (.int o 2)).run aj w= .ok (aq #[kA,kB,ku,kv]) w:=by first | rfl | kernel_rfl | simp[hg,go_sem]
theorem pb(t:ah)(k:Nat)(N:k < 3)(w:ac):(hg 145 (kS (bk t 0) (bk t 1) (bk t 2)) (.int o k)).run aj w= .ok (bS (bk t k)) w:=by
 rcases e7 N with rfl | rfl | rfl
 ·exact yY _ _ _ _ _ _ _ _ _ _ _ _ w
 ·exact yZ _ _ _ _ _ _ _ _ _ _ _ _ w
 ·exact y2 _ _ _ _ _ _ _ _ _ _ _ _ w
theorem CA(aA bz bg W H g:Nat)(aS bD bJ:ae)(L:List ah)(dc mk:Nat)(aU:aO->Option Int)(a:ah)(c:aO->Bool)(w:ac)(cQ:Steps w)(cK:eE w aA bz bg W H aS bD bJ L dc mk aU)
  (hL:∀t ∈ L,gw t) (ef:L.length<=1000) (a0:a ∈ L) (eg:∀(args:Array ae) (c2:ac),(callFunc g args).run aj c2= .ok (.enter g args) c2) (cR:Array ae) (cj:su w g cR c L):
  bB aj 116 #[ad (D ⟨aA,0,F⟩),bK a, eO (.func g) #[] cR] w fun r Z=>∃v q s,r= .returned v/\kM L c a q/\s.Perm q/\s.Pairwise c3/\Z.ownsRow w.heap.size 53 3 v s.length (bn s)/\Below w.heap.size w Z:=by
 have dU:=@run_makeMap aj;have cT:=hL a a0;have cZ:=aQ w (Y #[.int o a.1, .int o a.2.1, .int o a.2.2] 53);have cB:=aV w (Y #[.int o a.1, .int o a.2.1, .int o a.2.2] 53);obtain⟨bd,ap,ak⟩:=dl cZ;have aI:(w.alloc (Y #[.int o a.1, .int o a.2.1, .int o a.2.2] 53)).heap.size=w.heap.size+1:=by simp
 have bG:=co.made ei (w.alloc (Y #[.int o a.1, .int o a.2.1, .int o a.2.2] 53));rw[aI] at bG;have a1:=aN cB (.map #[] 0);have bd:=aD bd (.map #[] 0);have ap:=aD ap (.map #[] 0);have ak:=aD ak (.map #[] 0);obtain⟨dg,da,dk,b4,dr,du,dw,bp⟩:=l1 cj a0 hL bG cK cQ cT a1;clear cj a0 hL bG cK cQ cT a1 cB cZ;go_in
 go_wp2_with (refine DC (k:=ei) rfl _ _ _ rfl b4.out rfl (by decide) a dw.out.ok 1 rfl rfl (by decide) ?_;intro aT cF a2;have b5:=R cF;have b3:=R a2;have dD:=q8 a2 (by omega) bd;have f1:=q8 a2 (by omega) ap;have f2:=q8 a2 (by omega) ak;clear cF a2)
 have cr:ff w (w.heap.size+1) L c a [a] 0 0 (O (D ⟨aT.heap.size,0,F⟩) 1 1) (aT.alloc (Y #[.int o a.1, .int o a.2.1, .int o a.2.2] 53)):=by
  have a1:Below w.heap.size w aT:=bp.out.grown b3.out bp.out.size (fun k N=>by cases N;omega);refine⟨?_, ?_,aN a1 _,by omega,f7.start da.out⟩
  ·have h:=b5.out.alloc (Y #[.int o a.1, .int o a.2.1, .int o a.2.2] 53)
   have e:dX (fun _=>F) a 1=jW [a]:=by rw[<-Cc,vw];rfl
   rw[e] at h;exact h
  ·refine⟨rfl, .inr ⟨aT.heap.size,1,_,rfl,a1.size,aQ aT _,ce,by decide,rfl,rfl⟩⟩
 have cb:=R cr;clear cr bd ap ak dD f1 f2 dU b4 b3 b5 bp;generalize aT.alloc (Y #[.int o a.1, .int o a.2.1, .int o a.2.2] 53)=w2 at cb |-;go_loopw [8,9] (fun v x wr=>∃(q:List ah) (i:Nat),i<=q.length/\x= .int o i/\Hid (ff w (w.heap.size+1) L c a q i 0 v wr)) (fun _ x _=>L.length-(intOf x).toNat)
 case atStart=>exact⟨[a],0,by simp,rfl,cb⟩
 obtain⟨q,i,al,rfl,A⟩:=hrel;have cM:=A.out.inv.len;obtain⟨av,ar,ed,bO,_,_,_,_⟩:=dF A.out.own (qm A.out.inv.fst);subst bO;by_cases ay:i < q.length
 ·obtain⟨t,ht⟩:∃t,q[i]? =D t:=⟨_,bb ay⟩
  have eh:i < L.length:=by omega
  have bN:=(A.out.inv.sub t (cH ht)).1;have hts:=dk.out t bN;obtain⟨a3,a4,a5⟩:=ey A.out.own ht;have eW:=fun(bW:ac) (d3:Steps bW)=>n4 t.1 t.2.1 t.2.2 bW d3 (by have:=hts.1;omega) (by have:=hts.1;omega) (by have:=hts.2.1;omega) (by have:=hts.2.1;omega) hts.2.2.1 hts.2.2.2;have cU:=du.out.below A.out.bel;obtain⟨an,dy,ao,c5⟩:=df ht bN hts (eW wr cU);clear eW cU ht bN hts
  go_wp2_with (go_at_call 89;refine aw c5.out fun bW cC=> ?_;have bX:=R cC;clear cC)
  have cw:=A.out.below bX.out;have cd:=R cw;clear cw bX a3 a4 a5 A;go_loopw [8,31] (fun v x wr=>∃(q:List ah) (k:Nat) (av ar:Nat),k<=3/\x= .int o k/\v= O (D ⟨av,0,F⟩) q.length ar/\Hid (q[i]? =D t)/\i < q.length/\Hid (ff w (w.heap.size+1) L c a q i k v wr)) (fun _ x _=>3-(intOf x).toNat)
  case atStart=>exact⟨q,0,av,ar,by omega,rfl,rfl,an,ay,cd⟩
  clear an cd ay al cM;obtain⟨q,k,av,ar,N,rfl,rfl,an,ay,A⟩:=hrel;have cM:=A.out.inv.len;by_cases aM:k < 3
  ·have ej:(k:Int) < 3:=by omega
   have dP:∀w,(hg 145 (kS (ci t.1 t.2.1 t.2.2 0) (ci t.1 t.2.1 t.2.2 1) (ci t.1 t.2.1 t.2.2 2)) (.int o k)).run aj w= .ok (bS (bk t k)) w:=fun w=>pb t k aM w;have aF:=fun(W':ac) (aE:Below w.heap.size w W')=>dg.out W' t k dy.out aM aE;obtain⟨a3,a4,a5⟩:=ey A.out.own an.out;have cI:=uF ao.out.2.2 aM;have bI:=ao.out.next aM;have bu:=fun(K:ac)=>oi t.1 t.2.1 t.2.2 k K aM (by have:=ao.out.1;omega) (by have:=ao.out.1;omega) (by have:=ao.out.2.1;omega) (by have:=ao.out.2.1;omega) ao.out.2.2.1 ao.out.2.2.2;have bj:=fun(h:c (bk t k)=S->bE t k ∈ L->bE t k ∈ q)=>A.out.inv.skip an.out h;have bf:=fun(I Z:ac) (a8:ae) (c1:ac) (aE:Below wr.heap.size wr c1) (J:c1.grownBy I (D (w.heap.size+1))) (h1:c (bk t k)=S) (ab:bE t k ∈ L) (ag:bE t k ∉ q) G bT bU bV=>(A.out.below aE).add (Z:=Z) (a8:=a8) J an.out aM h1 ab ag G bT bU bV
   obtain⟨E,ck⟩:=ai (bk t k);obtain⟨l,bA⟩:=ai (bE t k);rw[show dI t.1 t.2.1 t.2.2 k=l from bA.symm] at bu;rw[<-bA] at cI bI bj bf;rw[<-ck] at dP aF bj bf;obtain⟨dh,bt,db,bs,c8⟩:=dY aF bj bf bI bu;clear aF bj bf bI cI bu ck bA;have a3:=aD a3 (Y #[.int o E.1, .int o E.2.1, .int o E.2.2.1, .int o E.2.2.2] 42);have a4:=aD a4 (Y #[.int o E.1, .int o E.2.1, .int o E.2.2.1, .int o E.2.2.2] 42);have a5:=aD a5 (Y #[.int o E.1, .int o E.2.1, .int o E.2.2.1, .int o E.2.2.2] 42)
   go_wp2_with (go_at_call 90;refine aw (c8.out _) fun K cD=> ?_;have bq:=R cD;clear cD)
   have bP:=aQ wr (Y #[.int o E.1, .int o E.2.1, .int o E.2.2.1, .int o E.2.2.2] 42);have bQ:=aW (aG bP bq.out (am bP)) (Y #[.int o l.1, .int o l.2.1, .int o l.2.2] 53);have bR:=aQ K (Y #[.int o l.1, .int o l.2.1, .int o l.2.2] 53);have bh:Below wr.heap.size wr (K.alloc (Y #[.int o l.1, .int o l.2.1, .int o l.2.2] 53)):=aN (ax (aV wr (Y #[.int o E.1, .int o E.2.1, .int o E.2.2.1, .int o E.2.2.2] 42)) bq.out) _;clear bP bq a3 a4 a5;generalize K.alloc (Y #[.int o l.1, .int o l.2.1, .int o l.2.2] 53)=w5 at bQ bR bh |-;have bi:=dr.out.below (ax A.out.bel bh);have b8:=bi.b8;have bF:=(bi.below aX.drew).look bs.out;obtain⟨u0,u1,u2⟩:=dl bR;obtain⟨a7,a9,ba,bc⟩:=dm bQ;obtain⟨c9,bw⟩:=ai (au (l ∈ L))
   rw[<-bw] at bF;have b2:=R bw;obtain⟨eb,cy⟩:=ai ((eH L l).getD 0);rw[<-cy] at bF;obtain⟨dv,br⟩:=aY bi bh;clear bw cy bi bh;have cv:w5.drew.cell? ⟨K.heap.size,0,F⟩=D (.int o l.1)/\w5.drew.cell? ⟨K.heap.size,1,F⟩=D (.int o l.2.1)/\w5.drew.cell? ⟨K.heap.size,2,F⟩=D (.int o l.2.2)/\w5.drew.cell? ⟨aA,5,F⟩=D (.map (D bz))/\w5.drew=w5.drew:=⟨u0,u1,u2,b8,rfl⟩
   go_region_held3 (fun Z=>Z.cell? ⟨K.heap.size,0,F⟩=D (.int o l.1)/\Z.cell? ⟨K.heap.size,1,F⟩=D (.int o l.2.1)/\Z.cell? ⟨K.heap.size,2,F⟩=D (.int o l.2.2)/\Z.cell? ⟨aA,5,F⟩=D (.map (D bz))/\Z=w5.drew)
    (first
     | with_reducible exact cv
     | with_reducible assumption)
    (first
     | fail)
   rename_i dL
   clear dL cv b8 bF;have be:=A.out.below (br.out.drew);have bl:(e2 70 (.map (D (w.heap.size+1))) (bK l) Q).run aj w5.drew= .ok (.int o (if l ∈ q then 1 else 0)) w5.drew:=by
    have h:=be.seen.gZ bs.out;rw[Cd] at h;exact h
   have u0:w5.drew.cell? ⟨K.heap.size,0,F⟩=_:=u0;have u1:w5.drew.cell? ⟨K.heap.size,1,F⟩=_:=u1;have u2:w5.drew.cell? ⟨K.heap.size,2,F⟩=_:=u2;have a7:w5.drew.cell? ⟨wr.heap.size,0,F⟩=_:=a7;have a9:w5.drew.cell? ⟨wr.heap.size,1,F⟩=_:=a9;have ba:w5.drew.cell? ⟨wr.heap.size,2,F⟩=_:=ba;have bc:w5.drew.cell? ⟨wr.heap.size,3,F⟩=_:=bc;have bC:Below wr.heap.size wr w5.drew:=br.out.drew;clear br dv bQ bR;generalize w5.drew=I at be bl u0 u1 u2 a7 a9 ba bc bC |-;obtain⟨P,dd⟩:=aY be bC;clear be A bC
   cases c9 with
   | false=>
    have aB:=bt.out (fun _ h=>absurd (b2.out.trans (decide_eq_true h)) (by decide));have aZ:=R aB;clear aB bl u0 u1 u2 a7 a9 ba bc;go_wp2;go_roundw
    case rel=>exact⟨q,k+1,av,ar,by omega,by go_num,rfl,an,ay,R (P.out.dt aZ.out)⟩
    case measure=>simp[intOf];omega
   | true=>
    have cx:l ∈ L:=of_decide_eq_true b2.out.symm;have dz:=R cx;clear cx;by_cases aK:l ∈ q
    ·rw[if_pos aK] at bl
     have aB:=bt.out (fun _ _=>aK);have aZ:=R aB;clear aB aK a7 a9 ba bc;go_wp2;go_roundw
     case rel=>exact⟨q,k+1,av,ar,by omega,by go_num,rfl,an,ay,R (P.out.dt aZ.out)⟩
     case measure=>simp[intOf];omega
    rw[if_neg aK] at bl;have dA:=R aK;clear aK;have aF:=dh.out I P.out.bel;obtain⟨c6,bv⟩:=ai (c E);rw[<-bv] at aF;obtain⟨bY,bZ⟩:=aY aF bv;clear aF bv
    cases c6 with
    | false=>
     have aB:=bt.out (fun h _=>absurd (bZ.out.trans h) (by decide));have aZ:=R aB;clear aB
     go_wp2_with (with_reducible refine aw bY.out fun c0 aL=> ?_)
     go_roundw
     case rel=>exact⟨q,k+1,av,ar,by omega,by go_num,rfl,an,ay,R ((P.out.below (by assumption)).dt aZ.out)⟩
     case measure=>simp[intOf];omega
    | true=>
     go_wp2_with (first
      | (with_reducible refine aw bY.out fun c0 aL=> ?_;have aC:=R aL;have d7:=V u0 aL;have d8:=V u1 aL;have d9:=V u2 aL;clear aL)
      | (at_mapUpdate;go_loud (refine mn (k:=ei) rfl _ _ _ rfl (P.out.below aC.out).seen rfl (by unfold maxLen;omega) l bs.out 1 rfl rfl (by decide) ?_);intro d6 cG aH;have dn:=R cG;have dj:=R aH;have el:=ff.qJ (P.out.below aC.out) aH d7;have em:=ff.qJ (P.out.below aC.out) aH d8;have en:=ff.qJ (P.out.below aC.out) aH d9;have dq:=R (ff.pD (P.out.below aC.out) aH);have d4:=(ff.sH (P.out.below aC.out) aH).size;clear cG aH)
      | (at_builtin;go_loud (refine i0 Tryz.underlying54 jm rfl (by decide) (by decide) rfl (.tmp 64) (.tmp 66) rfl w.heap.size _ q.length (bn q) [.int o l.1, .int o l.2.1, .int o l.2.2] rfl dq.out d4 1 _ rfl rfl rfl (jX _ _ _) (by omega) ?_);intro a8 Z bL cA cE;obtain⟨ch,hr,ec,d5,_⟩:=dF bL (Nat.succ_pos _);subst d5))
     have cq:=db.out d6 Z (O (D ⟨ch,0,F⟩) (q.length+1) hr) c0 (ax dd.out aC.out) dj.out bZ.out.symm dz.out dA.out dn.out bL cA cE;have dp:=R cq;clear cq bL cA cE;have dS:(q++ [l])[i]? =D t:=by rw[hS ay];exact an.out
     go_roundw
     case rel=>exact⟨q++ [l],k+1,ch,hr,by omega,by go_num,by simp,R dS,by simp;omega,dp⟩
     case measure=>simp[intOf];omega
  obtain rfl:k=3:=by omega
  go_wp2;go_roundw
  case rel=>exact⟨q,i+1,by omega,by go_num,R (A.out.dt A.out.inv.next)⟩
  case measure=>simp[intOf];omega
 have bx:=A.out.inv.done (by omega);have cS:=vE av ar q.length w.heap.size q wr rfl A.out.own (by omega);have cL:=mi q;have cV:=vF bx.eR;obtain⟨c7,di,b6,dx⟩:=df cS bx cL cV;clear cS bx cL cV
 go_wp2_with (go_at_call 108;go_loud (refine c7.out.mono ?_);rintro r ek ⟨rfl,dW,dN⟩)
 go_ret;have dR:=b6.out.length_eq;refine⟨_,q,gF q,rfl,di.out,b6.out,dx.out,by rw[dR];exact dW,A.out.bel.grown dN A.out.bel.size (fun k N=>by cases N;exact(uR A.out.own rfl).1)⟩
end
end
section
set_option maxRecDepth 100000
open Go.RowKit Go.Maps
noncomputable def gc(L:List ah):Bool:=match L with
 | []=>Q
 | a::_=>au ((jD L (fun _=>S) a).length=L.length)
theorem zn(args:Array ae)(ap:ac):(callFunc 117 args).run aj ap= .ok (.enter 117 args) ap:=by kernel_rfl
theorem zm(e:aO)(w:ac):bB aj 117 #[bS e] w fun r Z=>r= .returned (aa S)/\Below w.heap.size w Z:=by
 go_in;go_wp2;go_ret;exact⟨rfl,aV _ _⟩
theorem x0(w:ac)(L:List ah):su w 117 #[] (fun _=>S) L:=by
 intro W' t i _ _ _;exact zm (bk t i) W'
theorem zq(aA bz bg W H ar:Nat)(aS bD bJ:ae)(L:List ah)(dc mk:Nat)(aU:aO->Option Int)(w:ac)(I:Steps w)(y:eE w aA bz bg W H aS bD bJ L dc mk aU)(b:w.ownsRow ar 53 3 bJ L.length (bn L))
  (hL:∀t ∈ L,gw t) (P:L.length<=1000) (J:L.Pairwise c3):
  bB aj 88 #[ad (D ⟨aA,0,F⟩)] w fun r Z=>r= .returned (aa (gc L))/\Below w.heap.size w Z:=by
 have af:=y.bC
 cases L with
 | nil=>
  have aH:∃A c,bJ= O A 0 c:=by
   obtain⟨A,c,h,_⟩:=dd b;exact⟨A,c,h⟩
  obtain⟨A,c,rfl⟩:=aH;clear y b I;go_in;go_upto_region 1 with fail
  go_quiet (fail)
  go_wp2;go_ret;exact⟨rfl,below_drewN aX _⟩
 | cons a M=>
  obtain⟨L,k⟩:=ai (a::M);have ag:gc (a::M)=au ((jD L (fun _=>S) a).length=L.length):=by rw[k];rfl
  rw[ag];rw[<-k] at y b hL P J;have E:L[0]? =D a:=by rw[k];rfl
  have T:0 < L.length:=by rw[k];simp
  have G:a ∈ L:=cH E;obtain⟨g,cp,aK,rfl,_,_,aL,_⟩:=dF b T;obtain⟨am,an,ao⟩:=ey b E;have aM:au ((0:Int) < (L.length:Int))=S:=decide_eq_true (by omega);have aN:au (0 < L.length)=S:=decide_eq_true T;have al:∀q:List ah,kM L (fun _=>S) a q->(jD L (fun _=>S) a).length=q.length:=fun q aG=>xO J G aG;have cS:=fun(K:ac) (ab:Below w.heap.size w K)=>CA aA bz bg W H 117 aS bD (O (D ⟨g,0,F⟩) L.length cp) L dc mk aU a (fun _=>S) K (I.below ab) (y.below ab) hL P G zn #[] (x0 K L);obtain⟨aw,av⟩:=aY al cS;obtain⟨N,z⟩:=ai ((jD L (fun _=>S) a).length);rw[<-z];have ay:=R z;clear al cS z ag hL k J y b I G E;go_in;go_upto_region 1 with fail
  have az:w.drew.cell? ⟨aA,4,F⟩=D (O (D ⟨g,0,F⟩) L.length cp)/\w.drew.cell? ⟨g,0,F⟩=D (B o a.1)/\w.drew.cell? ⟨g,1,F⟩=D (B o a.2.1)/\w.drew.cell? ⟨g,2,F⟩=D (B o a.2.2)/\Below w.heap.size w w.drew:=⟨af,by simpa using am,by simpa using an,by simpa using ao,aX.drew⟩;clear am an ao af
  go_region_held3 (fun Z=>Z.cell? ⟨aA,4,F⟩=D (O (D ⟨g,0,F⟩) L.length cp)/\Z.cell? ⟨g,0,F⟩=D (B o a.1)/\Z.cell? ⟨g,1,F⟩=D (B o a.2.1)/\Z.cell? ⟨g,2,F⟩=D (B o a.2.2)/\Below w.heap.size w Z)
   (first
    | with_reducible exact az
    | with_reducible assumption
    | (go_split_ands;exact⟨V ‹_› l,V ‹_› l,V ‹_› l,V ‹_› l,ax ‹_› l⟩))
   (first
    | (go_split_ands;(with_reducible refine(av.out _ (by assumption)).mono ?_);rintro r wc ⟨v,q,s,rfl,aC,aF,_,aE,l⟩;obtain⟨aJ,hr,aI,_,_⟩:=dd aE;subst aI;have ak:=aF.length_eq;rw[aw.out q aC |>.symm,<-ay.out] at ak;rw[ak]))
  rename_i aB
  have aD:((N:Int)==(L.length:Int))=au (N=L.length):=by
   rw[Bool.eq_iff_iff];simp only[beq_iff_eq,decide_eq_true_eq];omega
  go_wp2;go_ret;exact⟨cW aD,aB.2.2.2.2⟩
end
end Go.Proofs.YteaeipgfjmnecaaGreatDoor

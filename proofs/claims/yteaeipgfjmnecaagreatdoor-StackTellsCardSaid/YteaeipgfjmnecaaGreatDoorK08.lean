/- Lemmas; each says its own conditions. -/
import Derived.Test.YteaeipgfjmnecaaGreatDoorK07
open And renaming intro->a7
open Bool renaming and_eq_true->cu,eq_iff_iff->e1,false->Q,false_and->dG,not_eq_true'->lj,or_eq_true->gJ,true->S,true_and->ib
open Classical renaming propDecidable->ic
open Decidable renaming decide->au
open Go renaming Value->ae,World->ac,heap_alloc_new->aQ,undef->U
open Go.Act renaming put->a6
open Go.Instr renaming lookup->e2
open Go.IntKind renaming i64->b7
open Go.IntWalk renaming i64_in->ca
open Go.IntKind renaming i64->o
open List renaming getD_eq_getElem?_getD->cf,getElem?_cons_zero->cU,getElem?_eq_getElem->bb,getElem?_eq_some_iff->bM,getElem?_of_mem->fz,getElem_of_mem->j4,idxOf_lt_length_of_mem->gK,mem_cons->dC,mem_flatMap->hj,mem_of_getElem?->cH,nodup_iff_pairwise_ne->oG,pairwise_cons->j8,pairwise_iff_getElem->qo,range->c4,setIfInBounds_toArray->bd,set_cons_succ->ba,set_cons_zero->bc
open Go.Obj renaming cells->Y
open Option renaming none->F,some->D
open Option.some renaming inj->cn,injEq->mA
open Prod.mk renaming injEq->jv
open Go.Proofs.Tryz renaming prog->aj
open Go.Value renaming agg->aq,bool->aa,int->B,pointer->ad,slice->O
namespace Go.Proofs.YteaeipgfjmnecaaGreatDoor
set_option linter.unusedSimpArgs false
set_option linter.unusedVariables false
set_option maxHeartbeats 12800000
section
open Go.RowKit Go.Maps
variable {a b:bP}{x y:bU}{out:List bP}{l:List bU}{h:List Int}
theorem mX:fi a b=S↔(a.1.1 < b.1.1∨a.1.1=b.1.1/\(a.1.2.1 < b.1.2.1∨a.1.2.1=b.1.2.1/\(a.1.2.2.1 < b.1.2.2.1∨a.1.2.2.1=b.1.2.2.1/\(a.1.2.2.2 < b.1.2.2.2∨a.1.2.2.2=b.1.2.2.2/\a.2 < b.2)))):=by
 obtain⟨⟨ao,a2,aA,aB⟩,aD⟩:=a;obtain⟨⟨b1,aC,aM,aE⟩,aF⟩:=b;simp only[fi,fD,fh,gJ,cu,decide_eq_true_eq,jv];omega
theorem rt(a:bP):¬fi a a=S:=by rw[mX];omega
theorem pn{c:bP}(h:fi a b=S)(g:fi b c=S):fi a c=S:=by rw[mX] at*;omega
theorem xk(h1:a.1.1=b.1.1)(ab:a.1.2.1=b.1.2.1)(ag:a.1.2.2.1=b.1.2.2.1)(az:a.1.2.2.2=b.1.2.2.2)(T:a.2=b.2):a=b:=Prod.ext (Prod.ext h1 (Prod.ext ab (Prod.ext ag az))) T
theorem ru(a b:bP):fi a b=S∨a=b∨fi b a=S:=by
 by_cases h:a=b
 ·exact .inr (.inl h)
 rw[mX,mX];have:¬(a.1.1=b.1.1/\a.1.2.1=b.1.2.1/\a.1.2.2.1=b.1.2.2.1/\a.1.2.2.2=b.1.2.2.2/\a.2=b.2):=fun⟨h1,ab,ag,az,T⟩=>h (xk h1 ab ag az T);omega
abbrev ie(l:List bP):Prop:=l.Pairwise fun a b=>fi a b=S
theorem vf(c:bP):ej [] c= [c]:=by simp[ej,jS]
theorem ve(a:bP)(l:List bP)(c:bP):ej (a::l) c=if fi a c=S then a::ej l c else if a=c then a::l else c::a::l:=by
 unfold ej jS;by_cases h:fi a c=S
 ·rw[if_pos h,List.takeWhile_cons_of_pos (p:=fun x=>fi x c) (l:=l) h]
  simp only[List.length_cons,List.getElem?_cons_succ,List.take_succ_cons,List.drop_succ_cons]
  split <;> rfl
 rw[if_neg h,List.takeWhile_cons_of_neg (p:=fun x=>fi x c) (l:=l) h];simp only[List.length_nil,cU,List.take_zero,List.drop_zero,mA,List.nil_append]
theorem pK(c x:bP):∀l:List bP,x ∈ ej l c↔x ∈ l∨x=c
 | []=>by simp[vf]
 | a::l=>by
  rw[ve];split;·rw[dC,pK c x l,dC,or_assoc]
  split
  ·next h=>rw[h,dC];exact⟨Or.inl,fun g=>g.elim id .inl⟩
  ·rw[dC];exact⟨Or.symm,Or.symm⟩
theorem rM(c:bP):∀l:List bP,ie l->ie (ej l c)
 | [],_=>by rw[vf];exact List.pairwise_singleton _ _
 | a::l,h=>by
  obtain⟨h1,ab⟩:=j8.1 h;rw[ve];split
  ·next g=>
   refine j8.2 ⟨fun y s=> ?_,rM c l ab⟩;rcases(pK c y l).1 s with k | rfl
   ·exact h1 y k
   ·exact g
  next g=>
  split
  ·exact h
  next k=>
  have hc:fi c a=S:=by
   rcases ru a c with q | q | q
   ·exact absurd q g
   ·exact absurd q k
   ·exact q
  refine j8.2 ⟨fun y s=> ?_,h⟩;rcases dC.1 s with rfl | s
  ·exact hc
  ·exact pn hc (h1 y s)
theorem CL(l:List bU)(h:List Int)(x:bU)(i:Nat)(out:List bP)(k:Nat)(G:ie out):
  ie (fH l h x i out k)/\∀c,c ∈ fH l h x i out k↔c ∈ out∨∃y,l[k]? =D y/\io x y=S/\i≠k/\0 < dw h x y/\c=(x.e,dw h x y):=by
 unfold fH;split
 ·next y s=>
  by_cases J:(io x y && !au (i=k) && au (0 < dw h x y))=S
  ·rw[J]
   simp only[cond_true];simp only[cu,decide_eq_true_eq,lj,decide_eq_false_iff_not] at J;refine⟨rM _ _ G,fun c=> ?_⟩;rw[pK];refine or_congr_right ⟨fun e=>⟨y,s,J.1.1,J.1.2,J.2,e⟩, ?_⟩;rintro⟨z,aI,_,_,_,e⟩;rw[s] at aI;cases aI
   exact e
  have aG:=Bool.not_eq_true _▸J;rw[show(io x y && !au (i=k) && au (0 < dw h x y))=Q by simpa using J];refine⟨G,fun c=>⟨.inl, ?_⟩⟩;rintro(g | ⟨z,aI,g1,g2,g3,e⟩);·exact g
  rw[s] at aI;cases aI
  exact absurd (by simp[g1,g2,g3]) J
 next hn=>
 refine⟨G,fun c=>⟨.inl, ?_⟩⟩;rintro(g | ⟨z,aI,_⟩);·exact g
 ·rw[hn] at aI;cases aI
theorem ty(l:List bU)(h:List Int)(x:bU)(i:Nat)(out:List bP)(G:ie out):∀n,ie ((c4 n).foldl (fH l h x i) out)/\∀c,c ∈ (c4 n).foldl (fH l h x i) out↔c ∈ out∨∃(k:Nat) (y:bU),k < n/\l[k]? =D y/\io x y=S/\i≠k/\0 < dw h x y/\c=(x.e,dw h x y)
 | 0=>⟨G,fun c=>⟨.inl,fun g=>g.elim id fun⟨k,y,E,_⟩=>by omega⟩⟩
 | n+1=>by
  have L:=ty l h x i out G n;rw[ni];have q:=CL l h x i _ n L.1;refine⟨q.1,fun c=> ?_⟩;rw[q.2,L.2,or_assoc];refine or_congr_right ⟨?_, ?_⟩
  ·rintro(⟨k,y,E,g⟩ | ⟨y,g⟩)
   ·exact⟨k,y,by omega,g⟩
   ·exact⟨n,y,by omega,g⟩
  rintro⟨k,y,E,g⟩;rcases Nat.lt_or_ge k n with h1 | h1
  ·exact .inl ⟨k,y,h1,g⟩
  obtain rfl:k=n:=by omega
  exact .inr ⟨y,g⟩
def qx(l:List bU)(h:List Int)(c:bP):Prop:=(∃x ∈ l,ij h x=S/\c=(x.e,4))∨∃(i k:Nat) (x y:bU),l[i]? =D x/\l[k]? =D y/\io x y=S/\i≠k/\0 < dw h x y/\c=(x.e,dw h x y)
theorem CK(h:List Int)(out:List bP){i:Nat}(r:l[i]? =D x):gG l h out i=(c4 l.length).foldl (fH l h x i) (bif ij h x then ej out (x.e,4) else out):=by
 unfold gG;rw[r]
theorem sU(l:List bU)(h:List Int):∀n,n<=l.length->ie ((c4 n).foldl (gG l h) [])/\∀c,c ∈ (c4 n).foldl (gG l h) []↔∃(i:Nat) (x:bU),i < n/\l[i]? =D x/\(ij h x=S/\c=(x.e,4)∨∃(k:Nat) (y:bU),l[k]? =D y/\io x y=S/\i≠k/\0 < dw h x y/\c=(x.e,dw h x y))
 | 0,_=>⟨List.Pairwise.nil,fun c=>⟨fun g=>by simp at g,fun⟨i,x,al,_⟩=>by omega⟩⟩
 | n+1,hn=>by
  have L:=sU l h n (by omega);rw[ni];obtain⟨x,r⟩:∃x,l[n]? =D x:=⟨_,bb (by omega)⟩;rw[CK h _ r];obtain⟨R,V⟩:=ai ((bif ij h x then ej ((c4 n).foldl (gG l h) []) (x.e,4) else((c4 n).foldl (gG l h) [])));rw[<-V];have Z:ie R/\∀c,c ∈ R↔c ∈ (c4 n).foldl (gG l h) []∨ij h x=S/\c=(x.e,4):=by
   rw[V]
   cases I:ij h x with
   | true=>exact⟨rM _ _ L.1,fun c=>by rw[cond_true,pK];simp⟩
   | false=>exact⟨L.1,fun c=>by simp⟩
  have q:=ty l h x n R Z.1 l.length;refine⟨q.1,fun c=> ?_⟩;rw[q.2,Z.2,L.2];constructor
  ·rintro((⟨i,z,al,g⟩ | g) | ⟨k,y,E,g⟩)
   ·exact⟨i,z,by omega,g⟩
   ·exact⟨n,x,by omega,r, .inl g⟩
   ·exact⟨n,x,by omega,r, .inr ⟨k,y,g⟩⟩
  rintro⟨i,z,al,aI,g⟩;rcases Nat.lt_or_ge i n with h1 | h1
  ·exact .inl (.inl ⟨i,z,h1,aI,g⟩)
  obtain rfl:i=n:=by omega
  rw[r] at aI;cases aI
  rcases g with g | ⟨k,y,E,g⟩
  ·exact .inl (.inr g)
  ·exact .inr ⟨k,y,(bM.1 E).1,E,g⟩
theorem sT(l:List bU)(h:List Int):ie (iC l h)/\∀c,c ∈ iC l h↔qx l h c:=by
 have q:=sU l h l.length ce;refine⟨q.1,fun c=>(q.2 c).trans ?_⟩;constructor
 ·rintro⟨i,x,al,r,g | ⟨k,y,g⟩⟩
  ·exact .inl ⟨x,cH r,g⟩
  ·exact .inr ⟨i,k,x,y,r,g⟩
 rintro(⟨x,r,g⟩ | ⟨i,k,x,y,r,g⟩)
 ·obtain⟨i,al,e⟩:=j4 r
  exact⟨i,x,al,by rw[bb al,e], .inl g⟩
 ·exact⟨i,x,(bM.1 r).1,r, .inr ⟨k,y,g⟩⟩
theorem xB(G:ie out)(I:∀c,c ∈ out↔qx l h c):out=iC l h:=
 o6 (lt:=fun a b=>fi a b=S) rt (fun _ _ _=>pn) G (sT l h).1 fun c=>(I c).trans ((sT l h).2 c).symm
def gS(h a b:Int):Bool:=au (min a b < h) && au (h < max a b)
theorem wZ(h a b:Int):gS h a b=jB h a b:=by
 rw[e1];simp only[gS,jB,gJ,cu,decide_eq_true_eq];omega
def l9(h:List Int)(x:bU):Bool:=x.fold && ((au (be h x.ay < be h x.an) !=x.over) !=au (x.kind=2))
def ip(h:List Int)(x y:bU):Int:=
 bif x.goes && y.goes && (au (be h x.ay < be h y.ay) !=au (be h x.an < be h y.an)) then 1
 else bif x.fold && y.goes && gS (be h y.ay) (be h x.ay) (be h x.an) then 2
 else bif x.fold && y.fold && !au ((y.ay:Int)=x.an) && (gS (be h y.ay) (be h x.ay) (be h x.an) !=gS (be h y.an) (be h x.ay) (be h x.an)) then 3 else 0
def nS(l:List bU)(h:List Int)(c:bP):Prop:=(∃x ∈ l,l9 h x=S/\c=(x.e,4))∨∃x ∈ l,∃y ∈ l,x.e=y.e/\x.ay≠y.ay/\x.pl=y.pl/\0 < ip h x y/\c=(x.e,ip h x y)
structure qz(l:List bU)(h:List Int):Prop where
 one:∀(i k:Nat) (x y:bU),l[i]? =D x->l[k]? =D y->x.e=y.e->x.ay=y.ay->i=k
 tm:∀x ∈ l,∀y ∈ l,x.ay≠y.ay->x.pl=y.pl->be h x.ay≠be h y.ay
 an:∀x ∈ l,∀y ∈ l,x.e=y.e->x.pl=y.pl->x.ay≠y.ay->x.goes=S->y.goes=S->be h x.an≠be h y.an
 back:∀x ∈ l,∀y ∈ l,x.e=y.e->x.pl=y.pl->x.fold=S->y.fold=S->((y.ay:Int)=x.an↔(x.ay:Int)=y.an)
 own:∀x ∈ l,x.fold=S->be h x.ay≠be h x.an
theorem uu(ah:x.fold=S->be h x.ay≠be h x.an):l9 h x=ij h x:=by
 unfold l9 ij
 cases hf:x.fold with
 | false=>rfl
 | true=>
  have ah:=ah hf;simp only[ib];cases x.over <;> by_cases E:x.kind=2 <;> simp only[E,decide_true,decide_false,cond_true,cond_false,Bool.bne_false,Bool.bne_true,Bool.not_not]
  all_goals
   rw[e1];simp only[lj,decide_eq_true_eq,decide_eq_false_iff_not];omega
theorem Bl(h:x.goes=S):x.fold=Q:=by
 unfold bU.goes at h;unfold bU.fold
 revert h
 cases au (0<=x.an) <;> cases au (x.aH=x.pl) <;> decide
theorem qM(h:List Int)(r:x.goes=S)(s:y.goes=S):ip h x y=(bif (au (be h x.ay < be h y.ay) !=au (be h x.an < be h y.an)) then 1 else 0)/\dw h x y=(bif au (be h x.ay < be h y.ay) && au (be h y.an < be h x.an) then 1 else 0):=by
 have hf:=Bl r;unfold ip dw;rw[r,s,hf];simp only[ib,dG,cond_false];exact⟨trivial,trivial⟩
theorem sQ(h:List Int)(K:(x.goes && y.goes)=Q)(ar:x.fold=S->y.fold=S->((y.ay:Int)=x.an↔(x.ay:Int)=y.an)):ip h x y=dw h x y:=by
 unfold ip dw;rw[K];simp only[dG,cond_false,wZ]
 cases hf:x.fold with
 | false=>simp only[dG]
 | true=>
  cases av:y.fold with
  | false=>simp only[ib,dG]
  | true=>
   have e:au ((y.ay:Int)=x.an)=au ((x.ay:Int)=y.an):=decide_eq_decide.2 (ar hf av);rw[e]
theorem wJ(g:qz l h)(c:bP):nS l h c↔qx l h c:=by
 constructor
 ·rintro(⟨x,r,I,rfl⟩ | ⟨x,r,y,s,he,ht,hp,h0,rfl⟩)
  ·exact .inl ⟨x,r,by rw[<-uu (g.own x r)];exact I,rfl⟩
  obtain⟨i,al,am⟩:=j4 r;obtain⟨k,E,ap⟩:=j4 s;have P:l[i]? =D x:=by rw[bb al,am]
  have N:l[k]? =D y:=by rw[bb E,ap]
  have M:i≠k:=by
   rintro rfl;rw[P] at N;cases N
   exact ht rfl
  have ak:io x y=S:=by simp[io,he,hp]
  have ax:io y x=S:=by simp[io,he,hp]
  by_cases K:(x.goes && y.goes)=S
  ·have A:=K
   rw[cu] at A;have q:=qM h A.1 A.2;have cM:=qM h A.2 A.1;have d1:=g.tm x r y s ht hp;have d2:=g.an x r y s he hp ht A.1 A.2;by_cases af:be h x.ay < be h y.ay
   ·have c1:ip h x y=dw h x y:=by
     rw[q.1,q.2];simp only[af,decide_true,ib,Bool.true_bne]
     congr 1
     rw[e1];simp only[lj,decide_eq_false_iff_not,decide_eq_true_eq];omega
    exact .inr ⟨i,k,x,y,P,N,ak,M,by rw[<-c1];exact h0,by rw[c1]⟩
   have aw:be h y.ay < be h x.ay:=by omega
   have c1:ip h x y=dw h y x:=by
    rw[q.1,cM.2];simp only[af,aw,decide_true,decide_false,ib,Bool.false_bne]
   exact .inr ⟨k,i,y,x,N,P,ax,fun e=>M e.symm,by rw[<-c1];exact h0,by rw[c1,he]⟩
  have c1:=sQ h (by simpa using K) (g.back x r y s he hp);exact .inr ⟨i,k,x,y,P,N,ak,M,by rw[<-c1];exact h0,by rw[c1]⟩
 rintro(⟨x,r,I,rfl⟩ | ⟨i,k,x,y,al,E,hp,M,h0,rfl⟩);·exact .inl ⟨x,r,by rw[uu (g.own x r)];exact I,rfl⟩
 have r:=cH al;have s:=cH E;simp only[io,cu,decide_eq_true_eq] at hp;have ht:x.ay≠y.ay:=fun e=>M (g.one i k x y al E hp.1 e);have c1:ip h x y=dw h x y:=by
  by_cases K:(x.goes && y.goes)=S
  ·have A:=K
   rw[cu] at A;have q:=qM h A.1 A.2;have d2:=g.an x r y s hp.1 hp.2 ht A.1 A.2;rw[q.2] at h0;have h1:(au (be h x.ay < be h y.ay) && au (be h y.an < be h x.an))=S:=by
    cases hh:(au (be h x.ay < be h y.ay) && au (be h y.an < be h x.an)) with
    | true=>rfl
    | false=>rw[hh] at h0;exact absurd h0 (by decide)
   rw[q.1,q.2,h1];rw[cu,decide_eq_true_eq,decide_eq_true_eq] at h1;have ab:¬be h x.an < be h y.an:=by omega
   simp[h1.1,ab]
  ·exact sQ h (by simpa using K) (g.back x r y s hp.1 hp.2)
 exact .inr ⟨x,r,y,s,hp.1,ht,hp.2,by rw[c1];exact h0,by rw[c1]⟩
theorem xC(g:qz l h)(G:ie out)(I:∀c,c ∈ out↔nS l h c):out=iC l h:=xB G fun c=>(I c).trans (wJ g c)
end
section
open Go.RowKit Go.Maps
def kI(m:aR):Bool:=au (m.1*m.2.2.2.1-m.2.1*m.2.2.1 < 0)
theorem Dj(m:aR)(i:dh m.1 m.2.1 m.2.2.1 m.2.2.2.1=S)(w:ac):Calls aj 94 #[b2 m] w fun e Z=>e= .returned (aa (kI m))/\Below w.heap.size w Z:=by
 obtain⟨a,b,c,d,e,f⟩:=m;have g:=aV w (Y #[B o a, B o b, B o c, B o d, B o e, B o f] 64);simp only[dh,ew,gJ,cu,beq_iff_eq] at i;have k:=R g;clear g;rcases i with ⟨⟨h1 | h1,ab⟩,ag | ag,az⟩ | ⟨⟨h1 | h1,ab⟩,ag | ag,az⟩ <;> subst h1 ab ag az <;> (go_in;go_wp2;go_ret;exact⟨by simp[kI],k.out⟩)
theorem Dk(m:aR)(i:dh m.1 m.2.1 m.2.2.1 m.2.2.2.1=S)(w:ac):Calls aj 80 #[b2 m] w fun e Z=>e= .returned (aa (kI m))/\Below w.heap.size w Z:=by
 obtain⟨a,b,c,d,e,f⟩:=m;have g:=aV w (Y #[B o a, B o b, B o c, B o d, B o e, B o f] 64);simp only[dh,ew,gJ,cu,beq_iff_eq] at i;have k:=R g;clear g;rcases i with ⟨⟨h1 | h1,ab⟩,ag | ag,az⟩ | ⟨⟨h1 | h1,ab⟩,ag | ag,az⟩ <;> subst h1 ab ag az <;> (go_in;go_wp2;go_ret;exact⟨by simp[kI],k.out⟩)
end
section
open Go.RowKit Go.Maps
variable {a b c d k:Int}{i:Nat}{t:ah}{m:aR}
def fP(m:aR)(e:aO):aO:=eI (m.1*e.1+m.2.1*e.2.1+m.2.2.2.2.1) (m.2.2.1*e.1+m.2.2.2.1*e.2.1+m.2.2.2.2.2) (m.1*e.2.2.1+m.2.1*e.2.2.2+m.2.2.2.2.1) (m.2.2.1*e.2.2.1+m.2.2.2.1*e.2.2.2+m.2.2.2.2.2)
def iv(m:aR)(i:Nat):Nat:=if kI m=S then 2-i else i
theorem nn(m:aR)(h:i < 3):iv m i < 3:=by unfold iv;split <;> omega
theorem Cm(m:aR){j:Nat}(h:i < 3)(ak:j < 3)(e:iv m i=iv m j):i=j:=by unfold iv at e;split at e <;> omega
theorem ub(a b x y E u v g:Int):a*(u+2*x)+b*(v+2*y)+(g+2*E)=a*u+b*v+g+2*(a*x+b*y+E):=by
 rw[Int.mul_add,Int.mul_add,Int.mul_left_comm a 2 x,Int.mul_left_comm b 2 y];omega
theorem AH(a b c d E l x y:Int)(e:aO):fP (a,b,c,d,0+2*E,0+2*l) (gf x y e)=gf (a*x+b*y+E) (c*x+d*y+l) (fP (a,b,c,d,0,0) e):=by
 unfold fP;rw[<-pC];simp only[gf,ub]
theorem ry(a b c d E l x y k:Int):dD (a,b,c,d,0+2*E,0+2*l) (x,y,k)=((dD (a,b,c,d,0,0) (0,0,k)).1+(a*x+b*y+E),(dD (a,b,c,d,0,0) (0,0,k)).2.1+(c*x+d*y+l),(dD (a,b,c,d,0,0) (0,0,k)).2.2):=by
 have c1:∀j,bY x j=bY 0 j+2*x:=fun j=>by unfold bY;omega
 have c2:∀j,bZ y j=bZ 0 j+2*y:=fun j=>by unfold bZ;omega
 have bV:2*x+1=(2*0+1)+2*x:=by omega
 have bC:2*y+1=(2*0+1)+2*y:=by omega
 have p:∀a b E u v:Int,jR a b (0+2*E) (u+2*x) (v+2*y)=jR a b 0 u v+2*(a*x+b*y+E):=fun a b E u v=>ub a b x y E u v 0;simp only[dD,h8];rw[c1,c2,c1 (k+1),c2 (k+1),bV,bC];simp only[p,jv];refine⟨by omega,by omega, ?_⟩
 congr 1 <;> omega
theorem x6(x y z G k:Int)(i:Nat):bk (z+x,G+y,k) i=gf x y (bk (z,G,k) i):=by
 have h1:=lW (z+x) (G+y) k i;have ab:=lW z G k i;show ci (z+x) (G+y) k i=gf x y (ci z G k i)
 rw[h1,ab];simp only[gf,jv];omega
def uD(a b c d k:Int):Bool:=au (0<=(dD (a,b,c,d,0,0) (0,0,k)).2.2) && au ((dD (a,b,c,d,0,0) (0,0,k)).2.2<=3) && [0,1,2].all fun i=>au (fP (a,b,c,d,0,0) (bk (0,0,k) i)=bk (dD (a,b,c,d,0,0) (0,0,k)) (iv (a,b,c,d,0,0) i))
theorem AJ(h:dh a b c d=S)(I:k=0∨k=1∨k=2∨k=3):uD a b c d k=S:=by
 rcases p1 h with ⟨rfl,rfl,rfl,rfl⟩ | ⟨rfl,rfl,rfl,rfl⟩ | ⟨rfl,rfl,rfl,rfl⟩ | ⟨rfl,rfl,rfl,rfl⟩ | ⟨rfl,rfl,rfl,rfl⟩ | ⟨rfl,rfl,rfl,rfl⟩ | ⟨rfl,rfl,rfl,rfl⟩ | ⟨rfl,rfl,rfl,rfl⟩ <;> rcases I with rfl | rfl | rfl | rfl <;> decide
theorem uE(h:dh m.1 m.2.1 m.2.2.1 m.2.2.2.1=S)(N:m.2.2.2.2.1 % 2=0)(hf:m.2.2.2.2.2 % 2=0)(ht:dN t):
  dN (dD m t)/\∀i,i < 3->fP m (bk t i)=bk (dD m t) (iv m i):=by
 obtain⟨a,b,c,d,e,f⟩:=m;simp only at h N hf;obtain⟨E,rfl⟩:∃E,e=0+2*E:=⟨e / 2,by omega⟩;obtain⟨l,rfl⟩:∃l,f=0+2*l:=⟨f / 2,by omega⟩;obtain⟨x,y,k⟩:=t;have I:k=0∨k=1∨k=2∨k=3:=by
  have h1:=ht.1;have ab:=ht.2;simp only at h1 ab;omega
 have q:=AJ h I;simp only[uD,cu,decide_eq_true_eq,List.all_cons,List.all_nil,and_true] at q;obtain⟨⟨aZ,bm⟩,Z,af,ai⟩:=q;rw[ry];refine⟨⟨aZ,bm⟩,fun i al=> ?_⟩;have V:iv (a,b,c,d,0+2*E,0+2*l) i=iv (a,b,c,d,0,0) i:=rfl;rw[V,x6];have:bk (x,y,k) i=gf x y (bk (0,0,k) i):=lW x y k i;rw[this,AH]
 congr 1
 rcases e7 al with rfl | rfl | rfl
 ·exact Z
 ·exact af
 ·exact ai
theorem AG{e:aO}(h:e.1=e.2.2.1∨e.2.1=e.2.2.2∨e.1+e.2.1=e.2.2.1+e.2.2.2∨e.1-e.2.1=e.2.2.1-e.2.2.2)(m:aR):fP (jz (fE (gY e) (h7 e)) m) e=fP m e:=by
 obtain⟨a,b,c,d⟩:=e;obtain⟨p,q,r,s,u,v⟩:=m;simp only at h;have key:∀A J C K E l:Int,A*a+J*b+E=a->C*a+K*b+l=b->A*c+J*d+E=c->C*c+K*d+l=d->fP (jz (A,J,C,K,E,l) (p,q,r,s,u,v)) (a,b,c,d)=fP (p,q,r,s,u,v) (a,b,c,d):=by
  intro A J C K E l h1 ab ag az;have g:∀p q u x y z G:Int,A*x+J*y+E=z->C*x+K*y+l=G->(p*A+q*C)*x+(p*J+q*K)*y+(p*E+q*l+u)=p*z+q*G+u:=by
   intro p q u x y z G R T;rw[<-R,<-T];simp only[Int.mul_add,Int.add_mul,Int.mul_assoc];omega
  simp only[fP,jz,g _ _ _ _ _ _ _ h1 ab,g _ _ _ _ _ _ _ ag az]
 unfold fE h7 gY d3;simp only;by_cases L:a=c
 ·simp only[L,if_true]
  subst L;exact key _ _ _ _ _ _ (by omega) (by omega) (by omega) (by omega)
 by_cases M:b=d
 ·simp only[L,M,if_true,if_false]
  subst M;exact key _ _ _ _ _ _ (by simp) (by simp;omega) (by simp) (by simp;omega)
 by_cases P:a+b=c+d
 ·simp only[L,M,P,if_true,if_false]
  exact key _ _ _ _ _ _ (by simp;omega) (by simp;omega) (by simp;omega) (by simp;omega)
 simp only[L,M,P,if_false];exact key _ _ _ _ _ _ (by simp;omega) (by simp;omega) (by simp;omega) (by simp;omega)
def ek(m:aR):aR:=jz m (-1,0,0,1,0,0)
def k2(t:ah):ah:=(-t.1-1,t.2.1,if t.2.2=1 then 3 else if t.2.2=3 then 1 else t.2.2)
theorem tw{u:ah}(h:k2 t=k2 u):t=u:=by
 obtain⟨x,y,k⟩:=t;obtain⟨an,ao,am⟩:=u;simp only[k2,jv] at h |-;obtain⟨h1,ab,ag⟩:=h;refine⟨by omega,ab, ?_⟩
 split at ag <;> (try split at ag) <;> (try split at ag) <;> (try split at ag) <;> omega
def vV(a b c d k:Int):Bool:=au (dD (-a, -b,c,d,0,0) (0,0,k)=k2 (dD (a,b,c,d,0,0) (0,0,k)))
theorem Dc(h:dh a b c d=S)(I:k=0∨k=1∨k=2∨k=3):vV a b c d k=S:=by
 rcases p1 h with ⟨rfl,rfl,rfl,rfl⟩ | ⟨rfl,rfl,rfl,rfl⟩ | ⟨rfl,rfl,rfl,rfl⟩ | ⟨rfl,rfl,rfl,rfl⟩ | ⟨rfl,rfl,rfl,rfl⟩ | ⟨rfl,rfl,rfl,rfl⟩ | ⟨rfl,rfl,rfl,rfl⟩ | ⟨rfl,rfl,rfl,rfl⟩ <;> rcases I with rfl | rfl | rfl | rfl <;> decide
theorem vX(a b c d e f:Int):ek (a,b,c,d,e,f)=(-a, -b,c,d, -e,f):=by
 simp only[ek,jz,jv];omega
theorem uv(h:dh m.1 m.2.1 m.2.2.1 m.2.2.2.1=S)(N:m.2.2.2.2.1 % 2=0)(hf:m.2.2.2.2.2 % 2=0)(ht:dN t):dD (ek m) t=k2 (dD m t):=by
 obtain⟨a,b,c,d,e,f⟩:=m;simp only at h N hf;obtain⟨E,rfl⟩:∃E,e=0+2*E:=⟨e / 2,by omega⟩;obtain⟨l,rfl⟩:∃l,f=0+2*l:=⟨f / 2,by omega⟩;obtain⟨x,y,k⟩:=t;have I:k=0∨k=1∨k=2∨k=3:=by
  have h1:=ht.1;have ab:=ht.2;simp only at h1 ab;omega
 have q:=Dc h I;rw[vV,decide_eq_true_eq] at q;rw[vX,show -(0+2*E)=0+2*(-E) by omega,ry,ry,q];simp only[k2,jv,and_true];rw[Int.neg_mul,Int.neg_mul];omega
end
section
open Go.RowKit Go.Maps
theorem us{m:aR}(h:bf m=S):dh m.1 m.2.1 m.2.2.1 m.2.2.2.1=S/\m.2.2.2.2.1 % 2=0/\m.2.2.2.2.2 % 2=0:=by
 unfold bf cE cJ at h;simp only[cu,decide_eq_true_eq] at h;refine⟨h.1, ?_, ?_⟩ <;> omega
def c0(L:List ah)(ms:List aR)(cs:List bw)(i k:Nat):bU where
 e:=fP (ms.getD i zeroV) (bk (L.getD i el) k)
 ay:=i
 pl:=bA L ms i
 an:=match fj L i k with | some j=>(j:Int) | none=>-1
 aH:=match fj L i k with | some j=>bA L ms j | none=>el
 kind:=ea cs (bk (L.getD i el) k)
 over:=kI (ms.getD i zeroV)
def qN(L:List ah)(ms:List aR)(cs:List bw)(q:Nat):bU:=c0 L ms cs (q / 3) (q % 3)
def d4(L:List ah)(ms:List aR)(cs:List bw)(q:Nat):List bU:=(c4 q).map (qN L ms cs)
theorem oZ(L:List ah)(ms:List aR)(cs:List bw)(q:Nat):(d4 L ms cs q).length=q:=by simp[d4]
theorem xQ(L:List ah)(ms:List aR)(cs:List bw)(i k:Nat)(g:k < 3):d4 L ms cs (i*3+k+1)=d4 L ms cs (i*3+k)++ [c0 L ms cs i k]:=by
 unfold d4;rw[List.range_succ,List.map_append];simp only[List.map_cons,List.map_nil,qN];rw[show(i*3+k) / 3=i by omega,show(i*3+k) % 3=k by omega]
theorem sZ(L:List ah)(ms:List aR)(cs:List bw)(i k:Nat):(c0 L ms cs i k).an= -1∨∃j:Nat,j < L.length/\(c0 L ms cs i k).an=(j:Int):=by
 simp only[c0]
 cases h:fj L i k with
 | none=>exact .inl rfl
 | some j=>
  refine .inr ⟨j, ?_,rfl⟩;unfold fj at h
  split at h
  ·split at h
   ·next ar=>cases h;exact gK ar
   ·cases h
  ·cases h
theorem oY{L:List ah}{ms:List aR}{cs:List bw}{q n:Nat}{x:bU}(h:(d4 L ms cs n)[q]? =D x):q < n/\x=c0 L ms cs (q / 3) (q % 3):=by
 have h1:=(bM.1 h).1;rw[oZ] at h1;refine⟨h1, ?_⟩;unfold d4 at h;rw[List.getElem?_map,List.getElem?_range h1] at h;cases h
 rfl
section
variable {L:List ah} {C:aO->Bool} {ms:List aR} {sts:List aP} {cs:List bw}
theorem qR(c:eo L ms sts){i:Nat}{p:aP}(G:sts[i]? =D p):∀(d:Nat) (s:aP),sts[i+1+d]? =D s->c3 p.1 s.1
 | 0,s,z=>c.lt i p s G z
 | d+1,s,z=>by
  obtain⟨q,af⟩:∃q,sts[i+1+d]? =D q:=⟨_,bb (by have:=(bM.1 z).1;omega)⟩;exact nw (qR c G d q af) (c.lt _ q s af z)
theorem qS(c:eo L ms sts){i j:Nat}{p s:aP}(G:sts[i]? =D p)(z:sts[j]? =D s)(A:p.1=s.1):i=j:=by
 rcases Nat.lt_trichotomy i j with h | h | h
 ·have:=qR c G (j-i-1) s (by rw[<-z];congr 1;omega)
  rw[A] at this;exact absurd this (gg _)
 ·exact h
 have:=qR c z (i-j-1) p (by rw[<-G];congr 1;omega);rw[A] at this;exact absurd this (gg _)
theorem lJ(c:eo L ms sts){i:Nat}{s:aP}(z:sts[i]? =D s){t:ah}(ht:t ∈ s.2):t ∈ L/\bA L ms (L.idxOf t)=s.1:=by
 obtain⟨q,af⟩:=fz ht;exact⟨(c.ay i s q t z af).1,(c.ay i s q t z af).2.1⟩
theorem xX(c:eo L ms sts){i:Nat}{s:aP}(z:sts[i]? =D s):s.2.Nodup:=by
 rw[oG,qo];intro a b Z V aL e;have:=(c.ay i s b _ z (bb V)).2.2;apply this
 rw[<-e];exact List.mem_take_iff_getElem.2 ⟨a,by omega,rfl⟩
theorem xW(c:eo L ms sts):(sts.flatMap (·.2)).Nodup:=by
 rw[oG,List.flatMap,List.pairwise_flatten];constructor
 ·intro l av
  obtain⟨s,z,rfl⟩:=List.mem_map.1 av;obtain⟨i,al⟩:=fz z;exact oG.1 (xX c al)
 rw[List.pairwise_map,qo];intro a b Z V aL x K y ai e;subst e;have h1:=lJ c (bb Z) K;have ab:=lJ c (bb V) ai;have:=qS c (bb Z) (bb V) (h1.2.symm.trans ab.2);omega
theorem o2(hnd:L.Nodup)(c:eo L ms sts){t:ah}(ht:t ∈ L):∃(i:Nat) (s:aP),sts[i]? =D s/\t ∈ s.2:=by
 have h1:=vH (xW c) (fun x K=>by
  obtain⟨s,z,K⟩:=hj.1 K;obtain⟨i,al⟩:=fz z;exact(lJ c al K).1) hnd c.many t ht
 obtain⟨s,z,K⟩:=hj.1 h1;obtain⟨i,al⟩:=fz z;exact⟨i,s,al,K⟩
theorem uh{t:ah}:∀{sts:List aP} {i:Nat} {s:aP},sts[i]? =D s->t ∈ s.2->(∀(j:Nat) (p:aP),j < i->sts[j]? =D p->t ∉ p.2)->cy sts t=((s.2.idxOf t:Nat):Int)
 | [],_,_,h,_,_=>by simp at h
 | a::r,0,s,h,ht,_=>by
  simp only[cU,mA] at h;subst h;unfold cy;rw[if_pos ht]
 | a::r,i+1,s,h,ht,hn=>by
  unfold cy;rw[if_neg (hn 0 a (by omega) (by simp))];exact uh (sts:=r) (i:=i) (by simpa using h) ht fun j p N G=>hn (j+1) p (by omega) (by simpa using G)
theorem pp(c:eo L ms sts){i:Nat}{s:aP}(z:sts[i]? =D s){t:ah}(ht:t ∈ s.2):cy sts t=((s.2.idxOf t:Nat):Int):=by
 refine uh z ht fun j p N G ar=> ?_;have:=qS c G z ((lJ c G ar).2.symm.trans (lJ c z ht).2);omega
theorem Au(hnd:L.Nodup)(c:eo L ms sts){t u:ah}(ht:t ∈ L)(I:u ∈ L)(R:t≠u)(A:bA L ms (L.idxOf t)=bA L ms (L.idxOf u)):cy sts t≠cy sts u:=by
 obtain⟨i,s,z,hts⟩:=o2 hnd c ht;obtain⟨j,p,G,aD⟩:=o2 hnd c I;have aA:=qS c z G ((lJ c z hts).2.symm.trans (A.trans (lJ c G aD).2));subst aA;rw[z] at G;cases G
 rw[pp c z hts,pp c z aD];intro e;apply R
 have aI:s.2.idxOf t=s.2.idxOf u:=by omega
 have h1:=List.getElem_idxOf (gK hts);have ab:=List.getElem_idxOf (gK aD);rw[<-h1,<-ab];simp only[aI]
theorem Av(hnd:L.Nodup)(c:eo L ms sts){t:ah}(ht:t ∈ L):0<=cy sts t:=by
 obtain⟨i,s,z,hts⟩:=o2 hnd c ht;rw[pp c z hts];omega
theorem tJ{i:Nat}{t:ah}(ht:L[i]? =D t):be (L.map (cy sts)) (i:Int)=cy sts t:=by
 unfold be;rw[Int.toNat_natCast,cf,List.getElem?_map,ht];rfl
theorem jI(hnd:L.Nodup){i:Nat}{t:ah}(ht:L[i]? =D t):L.idxOf t=i:=by
 obtain⟨al,e⟩:=bM.1 ht;rw[<-e];exact hnd.idxOf_getElem i al
theorem oa(hnd:L.Nodup)(c:eo L ms sts){i j:Nat}{t u:ah}(ht:L[i]? =D t)(I:L[j]? =D u)(R:i≠j)(A:bA L ms i=bA L ms j):be (L.map (cy sts)) (i:Int)≠be (L.map (cy sts)) (j:Int):=by
 rw[tJ ht,tJ I];refine Au hnd c (cH ht) (cH I) (fun e=>R ?_) ?_
 ·have h1:=jI hnd ht
  rw[e,jI hnd I] at h1;exact h1.symm
 rw[jI hnd ht,jI hnd I];exact A
theorem wS{i:Nat}{t:ah}(ht:L[i]? =D t):bA L ms i=dD (ms.getD i zeroV) t:=by
 unfold bA;rw[cf (l:=L),ht];rfl
theorem n0{i k:Nat}{t:ah}(ht:L[i]? =D t):(c0 L ms cs i k).e=fP (ms.getD i zeroV) (bk t k):=by
 unfold c0;rw[cf (l:=L),ht];rfl
theorem mS(bL:∀t ∈ L,eD t)(E:fp L C ms){i k:Nat}{t:ah}(ht:L[i]? =D t)(g:k < 3):dN (bA L ms i)/\(c0 L ms cs i k).e=bk (bA L ms i) (iv (ms.getD i zeroV) k):=by
 obtain⟨ap,ak,aF⟩:=us (E.may i (bM.1 ht).1).1;have az:=(bL t (cH ht)).2.2;rw[n0 ht,wS ht];exact⟨(uE ap ak aF az).1,(uE ap ak aF az).2 k g⟩
theorem rh(bL:∀t ∈ L,eD t)(E:fp L C ms){i k J:Nat}{t:ah}(ht:L[i]? =D t)(g:k < 3)(P:J < 3)(A:(c0 L ms cs i k).e=(c0 L ms cs i J).e):k=J:=by
 obtain⟨az,ap⟩:=mS (cs:=cs) bL E ht g;obtain⟨_,ak⟩:=mS (cs:=cs) bL E ht P;rw[ap,ak] at A;exact Cm _ g P (o4 az (nn _ g) (nn _ P) A)
theorem pc(bL:∀t ∈ L,eD t)(E:fp L C ms){i k j:Nat}{t:ah}(ht:L[i]? =D t)(g:k < 3)(N:fj L i k=D j):L[j]? =D (bE t k)/\(c0 L ms cs j (gx k)).e=(c0 L ms cs i k).e:=by
 have I:=oe ht N;have aG:=bL t (cH ht);refine⟨I, ?_⟩;rw[n0 I,n0 ht,(mO aG.2.2 g).2,E.ok i k (bM.1 ht).1 g j N,rV ht];unfold mj;split;·rfl
 ·exact AG (aG.iI g).one _
theorem rA(hnd:L.Nodup)(bL:∀t ∈ L,eD t){i k j:Nat}{t:ah}(ht:L[i]? =D t)(g:k < 3)(N:fj L i k=D j):fj L j (gx k)=D i:=by
 have I:=oe ht N;have az:=(bL t (cH ht)).2.2;have e:=(mO az g).1;rw[og I (by rw[e];exact cH ht),e,jI hnd ht]
theorem AL(hnd:L.Nodup)(bL:∀t ∈ L,eD t){i k j:Nat}{t:ah}(ht:L[i]? =D t)(g:k < 3)(N:fj L i k=D j):j≠i:=by
 rintro rfl;have I:=oe ht N;rw[ht] at I;exact uG (bL t (cH ht)).2.2 g (cn I).symm
theorem wX{i j:Nat}(al:i < 3)(N:j < 3)(h:gx i=gx j):i=j:=by
 rcases e7 al with rfl | rfl | rfl <;> rcases e7 N with rfl | rfl | rfl <;> simp[gx] at h |-
theorem qP{i k:Nat}(h:0<=(c0 L ms cs i k).an):∃j,fj L i k=D j/\(c0 L ms cs i k).an=(j:Int)/\(c0 L ms cs i k).aH=bA L ms j:=by
 unfold c0 at h |-;simp only at h |-
 cases hn:fj L i k with
 | some j=>exact⟨j,rfl,rfl,rfl⟩
 | none=>rw[hn] at h;exact absurd h (by decide)
theorem tF{i k:Nat}(h:(c0 L ms cs i k).goes=S):∃j,fj L i k=D j/\(c0 L ms cs i k).an=(j:Int)/\bA L ms j≠bA L ms i:=by
 simp only[bU.goes,cu,lj,decide_eq_true_eq,decide_eq_false_iff_not] at h;obtain⟨j,h1,ab,ag⟩:=qP h.1;exact⟨j,h1,ab,fun e=>h.2 (ag.trans e)⟩
theorem q6{i k:Nat}(h:(c0 L ms cs i k).fold=S):∃j,fj L i k=D j/\(c0 L ms cs i k).an=(j:Int)/\bA L ms j=bA L ms i:=by
 simp only[bU.fold,cu,decide_eq_true_eq] at h;obtain⟨j,h1,ab,ag⟩:=qP h.1;exact⟨j,h1,ab,ag.symm.trans h.2⟩
theorem ig{n:Nat}{x:bU}(h:x ∈ d4 L ms cs (n*3)):∃i k,i < n/\k < 3/\x=c0 L ms cs i k:=by
 obtain⟨q,af⟩:=fz h;obtain⟨h1,ab⟩:=oY af;exact⟨q / 3,q % 3,by omega,by omega,ab⟩
theorem tE(hnd:L.Nodup)(bL:∀t ∈ L,eD t)(E:fp L C ms){i k j:Nat}{t:ah}(ht:L[i]? =D t)(g:k < 3)(N:fj L i k=D j)(R:bA L ms j≠bA L ms i):bA L ms j=bE (bA L ms i) (iv (ms.getD i zeroV) k):=by
 obtain⟨I,e⟩:=pc (cs:= []) bL E ht g N;obtain⟨az,ap⟩:=mS (cs:= []) bL E ht g;obtain⟨aK,ak⟩:=mS (cs:= []) bL E I (ki k);exact(qZ az aK (nn _ g) (nn _ (ki k)) (ak.symm.trans (e.trans ap))).resolve_left R
theorem yx(hnd:L.Nodup)(bL:∀t ∈ L,eD t)(E:fp L C ms)(c:eo L ms sts):qz (d4 L ms cs (L.length*3)) (L.map (cy sts)) where
 one a b x y Z V A ht:=by
  obtain⟨h1,rfl⟩:=oY Z;obtain⟨ab,rfl⟩:=oY V;have aA:a / 3=b / 3:=ht;obtain⟨t,av⟩:∃t,L[a / 3]? =D t:=⟨_,bb (by omega)⟩;rw[<-aA] at A;have:=rh (cs:=cs) bL E av (by omega) (by omega) A;omega
 tm x K y ai R A:=by
  obtain⟨i,k,al,g,rfl⟩:=ig K;obtain⟨j,m,N,ar,rfl⟩:=ig ai;exact oa hnd c (bb al) (bb N) R A
 an x K y ai A G R hgx hgy:=by
  obtain⟨i,k,al,g,rfl⟩:=ig K;obtain⟨M,J,am,P,rfl⟩:=ig ai;have R:i≠M:=R;have G:bA L ms i=bA L ms M:=G;obtain⟨j,T,ao,d1⟩:=tF hgx;obtain⟨aT,aE,aN,d2⟩:=tF hgy;have ht:=bb al;have aw:=bb am;obtain⟨I,ax⟩:=pc (cs:=cs) bL E ht g T;obtain⟨aM,aJ⟩:=pc (cs:=cs) bL E aw P aE;obtain⟨aS,aZ⟩:=mS (cs:=cs) bL E ht g;obtain⟨_,bm⟩:=mS (cs:=cs) bL E aw P;have z:iv (ms.getD i zeroV) k=iv (ms.getD M zeroV) J:=by
   rw[aZ,bm,<-G] at A;exact o4 aS (nn _ g) (nn _ P) A
  have Z:=tE hnd bL E ht g T d1;have V:=tE hnd bL E aw P aE d2;rw[ao,aN];refine oa hnd c I aM (fun e=> ?_) ?_
  ·subst e
   have aB:k=J:=wX g P (rh (cs:=cs) bL E I (ki k) (ki J) (ax.trans (A.trans aJ.symm)));subst aB;have b1:=rA hnd bL ht g T;have aC:=rA hnd bL aw g aE;rw[b1] at aC;exact R (cn aC)
  ·rw[Z,V,z,G]
 back x K y ai A G hfx hfy:=by
  have key:∀i k M J,i < L.length->k < 3->M < L.length->J < 3->(c0 L ms cs i k).e=(c0 L ms cs M J).e->(c0 L ms cs i k).fold=S->((c0 L ms cs M J).ay:Int)=(c0 L ms cs i k).an->((c0 L ms cs i k).ay:Int)=(c0 L ms cs M J).an:=by
   intro i k M J al g am P A hf h;obtain⟨j,T,ao,d1⟩:=q6 hf;have ht:=bb al;obtain⟨I,ax⟩:=pc (cs:=cs) bL E ht g T;have e:M=j:=by
    have:((M:Nat):Int)=(j:Int):=h.trans ao;omega
   subst e;have aB:J=gx k:=rh (cs:=cs) bL E I P (ki k) (A.symm.trans ax.symm);subst aB;have b:=rA hnd bL ht g T;show((i:Nat):Int)=(match fj L M (gx k) with | some j=>(j:Int) | none=>-1)
   rw[b]
  obtain⟨i,k,al,g,rfl⟩:=ig K;obtain⟨M,J,am,P,rfl⟩:=ig ai;exact⟨key i k M J al g am P A hfx,key M J i k am P al g A.symm hfy⟩
 own x K hf:=by
  obtain⟨i,k,al,g,rfl⟩:=ig K;obtain⟨j,T,ao,d1⟩:=q6 hf;have ht:=bb al;rw[ao];exact oa hnd c ht (oe ht T) (AL hnd bL ht g T).symm d1.symm
end
end
section
open Go.RowKit Go.Maps
structure ho where
 ar:Nat
 aA:Nat
 bz:Nat
 bg:Nat
 W:Nat
 H:Nat
 dc:Nat
 ro:Nat
 bN:Nat
 cm:Nat
 cD:Nat
 eh:Nat
 aF:Nat
 gt:Nat
 dx:Nat
 aJ:Nat
 aS:ae
 bD:ae
structure fe(q:ho)(L:List ah)(ms:List aR)(h:List Int)(aU:aO->Option Int)(w:ac):Prop where
 cj:eE w q.aA q.bz q.bg q.W q.H q.aS q.bD (O (D ⟨q.gt,0,F⟩) L.length q.dx) L q.dc q.ro aU
 cd:dP w q.ar q.aA (O (D ⟨q.bN,0,F⟩) L.length q.cm) (O (D ⟨q.cD,0,F⟩) L.length q.eh) (O (D ⟨q.aF,0,F⟩) L.length L.length) q.aJ
 map:Rd w 6 (D ⟨q.bN,0,F⟩) L.length (b5 ms)
 at_:Rd w 3 (D ⟨q.cD,0,F⟩) L.length (bn (d6 L ms))
 ay:Rd w 3 (D ⟨q.gt,0,F⟩) L.length (bn L)
 c8:Rd w 1 (D ⟨q.aF,0,F⟩) L.length (bF h)
structure nT(L:List ah)(ms:List aR)(h:List Int)(aU:aO->Option Int)(cs:List bw):Prop where
 eR:L.Nodup
 bL:∀t ∈ L,eD t
 small:L.length<=1000
 maps:fp L (fr Q cs) ms
 av:h.length=L.length
 d9:∀e,(aU e).getD 0=ea cs e
section
variable {q:ho} {L:List ah} {ms:List aR} {h:List Int} {aU:aO->Option Int} {w Z:ac} {cs:List bw}
theorem fe.below(c:fe q L ms h aU w)(s:Below w.heap.size w Z):fe q L ms h aU Z:=
 ⟨c.cj.below s,c.cd.below s,c.map.below s,c.at_.below s,c.ay.below s,c.c8.below s⟩
theorem fy{aL g n:Nat}{A:List ae}(y:Rd w aL (D ⟨g,0,F⟩) n A){j:Nat}{u:ae}(z:A[j]? =D u):w.cell? ⟨g,j,F⟩=D u:=by
 have av:=y.1;have K:=(bM.1 z).1;have h0:0 < n:=by
  rcases Nat.eq_zero_or_pos n with h0 | h0
  ·rw[h0,Nat.zero_mul] at av;omega
  ·exact h0
 obtain⟨b,M,e,_,hc⟩:=y.2 h0;cases e
 have:=hc _ _ z
 rwa [Nat.zero_add] at this
theorem vN{l:List ah}{i:Nat}{t:ah}(h:l[i]? =D t):(bn l)[i*3]? =D (B o t.1)/\(bn l)[i*3+1]? =D (B o t.2.1)/\(bn l)[i*3+2]? =D (B o t.2.2):=by
 have r:=ia l i 0 t h (by decide);have ap:=ia l i 1 t h (by decide);have ak:=ia l i 2 t h (by decide);rw[Nat.mul_comm i 3];exact⟨r,ap,ak⟩
theorem fe.i8(c:fe q L ms h aU w){i:Nat}(al:i < L.length):w.cell? ⟨q.aF,i,F⟩=D (B o (be h (i:Int))):=by
 have:=er c.c8 al
 rwa [Nat.zero_add] at this
theorem fe.mF(c:fe q L ms h aU w){i:Nat}(al:i < L.length):w.cell? ⟨q.cD,i*3,F⟩=D (B o (bA L ms i).1)/\w.cell? ⟨q.cD,i*3+1,F⟩=D (B o (bA L ms i).2.1)/\w.cell? ⟨q.cD,i*3+2,F⟩=D (B o (bA L ms i).2.2):=by
 obtain⟨r,ap,ak⟩:=vN (qI (ms:=ms) al);exact⟨fy c.at_ r,fy c.at_ ap,fy c.at_ ak⟩
theorem fe.vU(c:fe q L ms h aU w){i:Nat}{t:ah}(ht:L[i]? =D t):w.cell? ⟨q.gt,i*3,F⟩=D (B o t.1)/\w.cell? ⟨q.gt,i*3+1,F⟩=D (B o t.2.1)/\w.cell? ⟨q.gt,i*3+2,F⟩=D (B o t.2.2):=by
 obtain⟨r,ap,ak⟩:=vN ht;exact⟨fy c.ay r,fy c.ay ap,fy c.ay ak⟩
theorem fe.ul(c:fe q L ms h aU w){i:Nat}{m:aR}(J:ms[i]? =D m):w.cell? ⟨q.bN,i*6,F⟩=D (B o m.1)/\w.cell? ⟨q.bN,i*6+1,F⟩=D (B o m.2.1)/\w.cell? ⟨q.bN,i*6+2,F⟩=D (B o m.2.2.1)/\w.cell? ⟨q.bN,i*6+3,F⟩=D (B o m.2.2.2.1)/\w.cell? ⟨q.bN,i*6+4,F⟩=D (B o m.2.2.2.2.1)/\w.cell? ⟨q.bN,i*6+5,F⟩=D (B o m.2.2.2.2.2):=by
 obtain⟨r,ap,ak,E,G,I⟩:=pu J;exact⟨fy c.map r,fy c.map ap,fy c.map ak,fy c.map E,fy c.map G,fy c.map I⟩
theorem fe.look(c:fe q L ms h aU w){t:ah}(ht:ei.ok t):(e2 70 (.map (D q.bz)) (bK t) Q).run aj w= .ok (B o ((eH L t).getD 0)) w:=c.cj.num.gZ (a:=t) ht
end
def fA(L:List ah)(ms:List aR)(i:Nat)(af:Int):Bool:=au (0<=af) && au (bA L ms af.toNat=bA L ms i)
def gB(L:List ah)(ms:List aR)(i:Nat)(af:Int):Bool:=au (0<=af) && !au (bA L ms af.toNat=bA L ms i)
theorem s5{L:List ah}{ms:List aR}{cs:List bw}{i k:Nat}(h:0<=(c0 L ms cs i k).an):(c0 L ms cs i k).aH=bA L ms (c0 L ms cs i k).an.toNat:=by
 obtain⟨j,_,ab,ag⟩:=qP h;rw[ag,ab,Int.toNat_natCast]
theorem oX(L:List ah)(ms:List aR)(cs:List bw)(i k:Nat):(c0 L ms cs i k).fold=fA L ms i (c0 L ms cs i k).an:=by
 unfold bU.fold fA;by_cases h:0<=(c0 L ms cs i k).an
 ·rw[s5 h];rfl
 ·rw[decide_eq_false h];rfl
theorem s0(L:List ah)(ms:List aR)(cs:List bw)(i k:Nat):(c0 L ms cs i k).goes=gB L ms i (c0 L ms cs i k).an:=by
 unfold bU.goes gB;by_cases h:0<=(c0 L ms cs i k).an
 ·rw[s5 h];rfl
 ·rw[decide_eq_false h];rfl
end
section
open Go.RowKit Go.Maps
section
variable {w l r I J:ac} {aA:Nat} {aS E:ae} {L:List ah} {ms:List aR} {sts:List aP} {ar aF aJ P i q ay A:Nat}
theorem oT{v a8:ae}(y:l.grownBy r (D aJ))(ab:fm r I v a8)(G:I.grownBy J (D aJ)){b:Nat}{af:Obj}(k:l.heap[b]? =D af)(h1:b≠aJ)(ag:v.ownBlock≠D b):J.heap[b]? =D af:=by
 have ao:=(y.block b (am k) (fun e=>h1 (cn e))).trans k;have a2:=(ab.grown.block b (am ao) (fun e=>ag e.symm)).trans ao;exact(G.block b (am a2) (fun e=>h1 (cn e))).trans a2
theorem hl.rJ(h:hl w aA aS E L sts ar aF aJ i ay A l){n:Nat}{f:ah->Option ae}(hn:n<=(cv sts i A).length)(R:eT l w.heap.size aJ n f (fO L sts i A))(y:l.grownBy r (D aJ)){s:aP}{t:ah}{a8:ae}(M:fm r I ((f s.1).getD (O F 0 0)) a8)
  (ax:I.ownsRow w.heap.size 3 1 a8 ((fO L sts i A s.1).length+1) (di (fO L sts i A s.1++ [L.idxOf t]))) (ai:cY iN J aJ (n+1) (it f s.1 a8)) (G:I.grownBy J (D aJ)) (c:sts[i]? =D s) (ht:s.2[A]? =D t)
  (Z:∀(j:Nat) (a:aP),j < i->sts[j]? =D a->a.1≠s.1) (aI:ar < w.heap.size) (aC:aF < w.heap.size) (aX:aJ < w.heap.size) (aD:aF≠aJ) (aK:ar≠aJ):hl w aA aS E L sts ar aF aJ i ay (A+1) J:=by
 have T:=R.val s.1;have aw:∀b,b < w.heap.size->((f s.1).getD (O F 0 0)).ownBlock≠D b:=fun b k e=>by
  have:=(T.lt b e).1;omega
 have aV:=h.cb.size;have aW:=y.size;obtain⟨av,al,an,V⟩:=h.c8;refine⟨oT y M G h.cd aK (aw _ aI),⟨av,al,oT y M G an aD (aw _ aC),V⟩,⟨n+1,it f s.1 a8,by rw[lV c ht];simp;omega, ?_⟩,((h.cb.grown y ?_).grown M.grown ?_).grown G ?_⟩
 ·rw[yD c ht Z]
  refine R.put y ax M.grown ?_ ai G (fun t v T=>eN (R.row t v T).1 R.map.is) (fun e=> ?_)
  ·rcases M.at_ with h1 | ⟨g,h1,ab⟩
   ·exact .inl h1
   ·exact .inr ⟨g,h1,by omega⟩
  have:=(ax.lt aJ e).1;omega
 ·intro b k;cases k;exact .inr (.inl rfl)
 ·intro b k
  exact .inr (.inr (T.lt b k).1)
 ·intro b k;cases k;exact .inr (.inl rfl)
theorem hY.next{s:aP}(c:sts[i]? =D s)(h0:0 < s.2.length)(Z:∀(j:Nat) (a:aP),j < i->sts[j]? =D a->a.1≠s.1)(h:hY w aA aS E L ms sts ar aF aJ P i s.2.length l):hY w aA aS E L ms sts ar aF aJ P (i+1) 0 l:=by
 obtain⟨h1,ab,ag,aN,az,aB⟩:=h;obtain⟨aO,⟨av,al,an,V⟩,⟨n,f,aL,aM⟩,aT⟩:=ag;have ap:=o5 c;have ak:g6 L sts i s.2.length=g6 L sts (i+1) 0:=by
  funext z
  unfold g6;rw[ap]
 refine⟨h1.next c h0,by rw[<-ap];exact ab,⟨aO,⟨av,al,an,fun j a p t aU K ht=> ?_⟩,⟨n,f,by rw[<-ap];exact aL,by rw[<-yC (ms:=ms) c Z];exact aM⟩,aT⟩,aN,by rw[<-ap];exact az,by rw[<-ak];exact aB⟩;have N:j < i∨j=i:=by omega
 rcases N with N | N
 ·exact V j a p t (.inl N) K ht
 subst N;rw[c] at K;cases K
 exact V j s p t (.inr ⟨rfl,(bM.1 ht).1⟩) c ht
theorem hY.step{s:aP}{t:ah}(h:hY w aA aS E L ms sts ar aF aJ P i q l)(c:sts[i]? =D s)(ht:s.2[q]? =D t)(aG:s.2≠ [])(aE:∀(j:Nat) (a:aP),j+1=i->sts[j]? =D a->c3 a.1 s.1)(h1:t ∈ L)(ab:t ∉ cv sts i q)(ag:bA L ms (L.idxOf t)=s.1)
  (aH:hl w aA aS E L sts ar aF aJ i (q+1) (q+1) r) {n:Nat} (hn:n<=(cv sts i q).length) (ai:co mU r P (n+1) (dX (g6 L sts i q) ((L.idxOf t:Nat):Int) 1)):hY w aA aS E L ms sts ar aF aJ P i (q+1) r:=by
 refine⟨h.inv.vT c ht aG aE h1 ag ab, ?_,aH,n+1,by rw[lV c ht];simp;omega,by rw[<-Cr c ht];exact ai⟩;rw[lV c ht,List.nodup_append];refine⟨h.eR,by simp,fun a K b k e=> ?_⟩;rw[List.mem_singleton] at k;subst k;subst e;exact ab K
end
end
section
set_option maxRecDepth 100000
open Go.RowKit Go.Maps
variable {sts:List aP}{L:List ah}{ms:List aR}
open Classical in
noncomputable def mW(L:List ah)(ms:List aR)(sts:List aP):Bool:=au (eo L ms sts)
theorem ua(h:eo L ms sts):mW L ms sts=S:=@decide_eq_true _ (ic _) h
theorem Ag(h:¬eo L ms sts):mW L ms sts=Q:=@decide_eq_false _ (ic _) h
theorem Af:mW L ms sts=S↔eo L ms sts:=@decide_eq_true_iff _ (ic _)
structure qA(w:ac)(aA:Nat)(aS c7:ae)(L:List ah)(sts:List aP)(ar aF aJ:Nat)(wr:ac):Prop where
 cd:dP wr ar aA aS c7 (O (D ⟨aF,0,F⟩) L.length L.length) aJ
 c8:∃bH:List Nat,bH.length=L.length/\wr.heap[aF]? =D (Y (di bH).toArray 3 (0,0))/\l3 L sts sts.length 0 bH
 map:∃(n:Nat) (f:ah->Option ae),n<=L.length/\eT wr w.heap.size aJ n f (fO L sts sts.length 0)
theorem Ah(b3:ac)(ar aA bz bg W H jd aF aJ:Nat)(aS bD bJ c7:ae)(L:List ah)(dc mk:Nat)(aU:aO->Option Int)(dL As:Option Addr)(eX ns cS:Nat)(ms:List aR)(sts:List aP)(w:ac)(g9:eE w aA bz bg W H aS bD bJ L dc mk aU)
  (i0:∃fL dx,bJ= O fL L.length dx) (gv:0 < L.length) (jf:L.length<=1000) (aK:Below b3.heap.size b3 w) (hst:en b3 As ns sts) (cy:dP w ar aA (O dL L.length eX) c7 (O (D ⟨aF,0,F⟩) L.length L.length) aJ) (fy:w.ownsRow b3.heap.size 53 3 c7 L.length (bn (d6 L ms)))
  (bY:w.heap[aF]? =D (Y (Array.replicate L.length (B o 0)) 3 (0,0))) (cw:cY iN w aJ 0 (fun _=>F)) (gQ:b3.heap.size<=aF) (g0:b3.heap.size<=aJ) (ha:aA≠aF/\aA≠aJ/\bz≠aF/\bz≠aJ):
  Calls aj 47 #[ad (D ⟨ar,0,F⟩), O As ns cS] w fun r Z=>r= .returned (aa (mW L ms sts))/\da w Z aF aJ/\(eo L ms sts->qA w aA (O dL L.length eX) c7 L sts ar aF aJ Z):=by
 obtain⟨fL,dx,rfl⟩:=i0;obtain⟨aS,hq⟩:∃aS:ae,aS= O dL L.length eX:=⟨_,rfl⟩;rw[<-hq] at cy |-;obtain⟨eK,dB⟩:=ai (mW L ms sts);rw[<-dB];have hr:eo L ms sts->eK=S:=fun h=>dB.trans (ua h);have g2:¬eo L ms sts->eK=Q:=fun h=>dB.trans (Ag h);obtain⟨cD,eh,je,iZ,_,_,jk,fc⟩:=dF fy gv;subst iZ;have e6:cD≠aF:=fun e=>by subst e;rw[fc] at bY;simp at bY
 have e7:cD≠aJ:=fun e=>by subst e;obtain⟨dA,c,aH⟩:=cw.is;rw[fc] at aH;cases aH
 have jD:ar≠aF:=fun e=>by have h1:w.heap[ar]? =_:=cy;rw[e,bY] at h1;simp at h1
 have i7:ar≠aJ:=fun e=>by have h1:w.heap[ar]? =_:=cy;obtain⟨dA,c,aH⟩:=cw.is;rw[e,aH] at h1;cases h1
 have gR:aF≠aJ:=fun e=>by obtain⟨dA,c,aH⟩:=cw.is;rw[<-e,bY] at aH;cases aH
 have iR:ns=sts.length:=hst.len;subst iR;have gI:b3.heap.size<=w.heap.size:=aK.size;have hsz:=hst.aL;have fd:=am bY;have i6:=am (show w.heap[ar]? =_ from cy);have g1:=cw.lt;have iM:=@run_makeMap aj;obtain⟨hP,eA,dv,fM,aE,hO,hN,hH,hJ,cg⟩:=rb hr g2 g9 aK hst cy fy bY cw ha;clear hr g2 dB g9 hst cy fy bY cw fc hq ha;go_in
 go_wp2_with fail
 have gx:hY w aA aS (O (D ⟨cD,0,F⟩) L.length eh) L ms sts ar aF aJ w.heap.size 0 0 (w.alloc (.map #[] 0)):=by
  have bf:=aV w (.map #[] 0);refine⟨eS.start _ _ _,by simp[cv],⟨hO.out.below bf,⟨List.replicate L.length 0,by simp, ?_,fun j s p t h=>by omega⟩,⟨0,fun _=>F,Nat.zero_le _, ?_⟩,(da.refl w aF aJ).below bf⟩,⟨0,Nat.zero_le _, ?_⟩⟩
  ·have:=aG hH.out bf fd
   rw[this];simp[di]
  ·have h1:=eT.of_map (hJ.out.stay bf) w.heap.size
   have ab:fO L sts 0 0=fun _=> []:=by
    funext x
    unfold fO;simp
    cases sts with
    | nil=>rfl
    | cons a l=>simp
   rw[ab];exact h1
  have h1:=co.made mU w;have ab:g6 L sts 0 0=fun _=>F:=by
   funext z
   unfold g6;rw[if_neg];rintro⟨u,bG,_⟩;simp[cv] at bG
  rw[ab];exact h1
 have eF:=R gx;clear gx iM;generalize w.alloc (.map #[] 0)=w0 at eF |-;go_loopw [5,16] (fun c v wr=>∃i:Nat,i<=sts.length/\v= B o i/\c= B o ((cv sts i 0).length:Nat)/\Hid (hY w aA aS (O (D ⟨cD,0,F⟩) L.length eh) L ms sts ar aF aJ w.heap.size i 0 wr)) (fun _ v _=>sts.length-(intOf v).toNat)
 case atStart=>exact⟨0,by omega,rfl,by simp[cv],eF⟩
 clear eF;obtain⟨i,al,rfl,rfl,aI⟩:=hrel;have ji:=aI.out.len;by_cases jn:i < sts.length
 ·obtain⟨s,b2⟩:∃s,sts[i]? =D s:=⟨_,bb (by omega)⟩
  obtain⟨a0,a2,bl,be,hA,hg,M,bI,bL,fJ⟩:=aE.out.at_ b2;subst hA;have bh:=fM.out.trans (aI.out.x.cb.out gQ g0 gI);obtain⟨M,bI,bL,fJ⟩:=fQ bh M bI bL fJ;have jm:(i:Int) < (sts.length:Int):=by omega
  have jl:(0:Int)<=(i:Int):=by omega
  have g5:=aE.out.ok s (cH b2);have jw:s.2.length<=140737488351232:=by obtain⟨bx,_,ab⟩:=aE.out.ex;obtain⟨_,_,_,_,ag⟩:=ab i s b2;exact ag.1
  obtain⟨p,fs⟩:∃p:aP,0 < i->sts[i-1]? =D p:=by
   by_cases h0:0 < i
   ·exact⟨_,fun _=>bb (show i-1 < sts.length by omega)⟩
   ·exact⟨s,fun h=>absurd h h0⟩
  have cx:0 < i->wr.cell? ⟨a0,a2+(i-1)*4,F⟩=D (B o p.1.1)/\wr.cell? ⟨a0,a2+(i-1)*4+1,F⟩=D (B o p.1.2.1)/\wr.cell? ⟨a0,a2+(i-1)*4+2,F⟩=D (B o p.1.2.2):=by
   intro h0;obtain⟨aC,jG,_,_,cI,_,q0,aZ,bm,_⟩:=aE.out.at_ (fs h0);injection cI with cI
   injection cI with ap ak _
   subst ap ak;exact⟨V q0 bh,V aZ bh,V bm bh⟩
  have fj:=aI.out.inv;have i5:=aI.out.x.cb.size;obtain⟨aW,eC,hM,eD⟩:=df b2 g5 hg fs;obtain⟨P,rfl⟩:=ai wr;have ct:=aV P (Y #[B o s.1.1, B o s.1.2.1, B o s.1.2.2, O bl s.2.length be] 56);have gy:=aI.out.below ct;have fC:=aQ P (Y #[B o s.1.1, B o s.1.2.1, B o s.1.2.2, O bl s.2.length be] 56);have eG:=R gy;clear b2 g5 hg fs fj aI gy
  go_wp2_with fail
  obtain⟨an,ao,T,b4⟩:=dm fC;have cx:0 < i->(P.alloc (Y #[B o s.1.1, B o s.1.2.1, B o s.1.2.2, O bl s.2.length be] 56)).cell? ⟨a0,a2+(i-1)*4,F⟩=D (B o p.1.1)/\(P.alloc (Y #[B o s.1.1, B o s.1.2.1, B o s.1.2.2, O bl s.2.length be] 56)).cell? ⟨a0,a2+(i-1)*4+1,F⟩=D (B o p.1.2.1)/\(P.alloc (Y #[B o s.1.1, B o s.1.2.1, B o s.1.2.2, O bl s.2.length be] 56)).cell? ⟨a0,a2+(i-1)*4+2,F⟩=D (B o p.1.2.2):=fun h0=>by
   obtain⟨q0,aZ,bm⟩:=cx h0;exact⟨V q0 ct,V aZ ct,V bm ct⟩
  have dp:=R fC;have hs:P.heap.size < (P.alloc (Y #[B o s.1.1, B o s.1.2.1, B o s.1.2.2, O bl s.2.length be] 56)).heap.size:=by simp
  have jB:w.heap.size<=P.heap.size:=i5;have gL:=bh.trans (ct.mono bh.size);clear fC M bI bL fJ bh ct;generalize P.alloc (Y #[B o s.1.1, B o s.1.2.1, B o s.1.2.2, O bl s.2.length be] 56)=w1 at an ao T b4 cx dp eG hs gL |-;have eL:∀W:ac,Calls aj 66 #[bK p.1,bK s.1] W fun e Z=>e= .returned (B o (ga p.1 s.1))/\Below W.heap.size W Z:=fun W=>(sX p.1.1 p.1.2.1 p.1.2.2 s.1.1 s.1.2.1 s.1.2.2 W).mono fun e Z h=>⟨h.1,h.2.below⟩;obtain⟨gq,e5⟩:=ai (ga p.1 s.1);rw[<-e5] at eL;obtain⟨b0,bf⟩:=ai (au ((0:Int) < (i:Int)));obtain⟨aN,fa⟩:=ai (au (0<=gq));obtain⟨dz,N⟩:=ai (((s.2.length:Int)==0));have hb:b0=S->w1.cell? ⟨a0,a2+(i-1)*4,F⟩=D (B o p.1.1)/\w1.cell? ⟨a0,a2+(i-1)*4+1,F⟩=D (B o p.1.2.1)/\w1.cell? ⟨a0,a2+(i-1)*4+2,F⟩=D (B o p.1.2.2):=fun h=>cx (by rw[bf] at h;have:=of_decide_eq_true h;omega)
  have fw:b0=S->b7.wrap ((i:Int)-1)=((i-1:Nat):Int):=fun h=>by rw[bf] at h;have:=of_decide_eq_true h;rw[ca _ (by omega)];omega
  have jp:((i-1:Nat):Int) < (sts.length:Int):=by omega
  have jo:(0:Int)<=((i-1:Nat):Int):=by omega
  obtain⟨f8,gf,dk,eJ,cC⟩:=dY hb fw (a7 bf (a7 fa N)) e5 eL;have e8:=bf.symm;have gM:=fa.symm;have gH:=N.symm;have gE:au (0 < i)=b0:=by rw[<-e8];exact decide_eq_decide.2 (by omega)
  have f9:=R (a7 e8 (a7 gM (a7 gH gE)));clear cx hb fw bf fa N e5 eL e8 gM gH gE;obtain⟨h6,dW⟩:∃y:ae,Hid (y=(bif b0 then O (D ⟨a0,a2,F⟩) sts.length cS else U)):=⟨_,R rfl⟩;obtain⟨h7,d1⟩:∃y:ae,Hid (y=(bif b0 then B o i else U)):=⟨_,R rfl⟩;obtain⟨h8,d2⟩:∃y:ae,Hid (y=(bif b0 then B o ((i-1:Nat):Int) else U)):=⟨_,R rfl⟩;obtain⟨h9,d3⟩:∃y:ae,Hid (y=(bif b0 then ad (D ⟨a0,a2+(i-1)*4,F⟩) else U)):=⟨_,R rfl⟩;obtain⟨ia,d4⟩:∃y:ae,Hid (y=(bif b0 then ad (D ⟨a0,a2+(i-1)*4,F⟩) else U)):=⟨_,R rfl⟩;obtain⟨id,d5⟩:∃y:ae,Hid (y=(bif b0 then bK p.1 else U)):=⟨_,R rfl⟩
  obtain⟨ie,d7⟩:∃y:ae,Hid (y=(bif b0 then ad (D ⟨P.heap.size,0,F⟩) else U)):=⟨_,R rfl⟩;obtain⟨hQ,dM⟩:∃y:ae,Hid (y=(bif b0 then bK s.1 else U)):=⟨_,R rfl⟩;obtain⟨hR,dN⟩:∃y:ae,Hid (y=(bif b0 then B o gq else U)):=⟨_,R rfl⟩;obtain⟨hS,dO⟩:∃y:ae,Hid (y=(bif b0 then aa aN else U)):=⟨_,R rfl⟩;obtain⟨hT,dQ⟩:∃y:ae,Hid (y= aa (b0 && aN)):=⟨_,R rfl⟩;obtain⟨hU,bN⟩:∃y:ae,Hid (y= aa (b0 && aN)):=⟨_,R rfl⟩;obtain⟨hX,dR⟩:∃y:ae,Hid (y=(bif (!(b0 && aN)) then ad (D ⟨P.heap.size,3,F⟩) else U)):=⟨_,R rfl⟩;obtain⟨h2,dS⟩:∃y:ae,Hid (y=(bif (!(b0 && aN)) then(O bl s.2.length be) else U)):=⟨_,R rfl⟩
  obtain⟨h3,dT⟩:∃y:ae,Hid (y=(bif (!(b0 && aN)) then B o (s.2.length:Int) else U)):=⟨_,R rfl⟩;obtain⟨h4,dU⟩:∃y:ae,Hid (y=(bif (!(b0 && aN)) then aa dz else U)):=⟨_,R rfl⟩;obtain⟨h5,dV⟩:∃y:ae,Hid (y= aa ((b0 && aN) || dz)):=⟨_,R rfl⟩;refine bW (fin:= ?T) [B o i, aa b0, aa b0,h6,h7,h8,h9,ia,id,ie,hQ,hR,hS,hT,hU,hX,h2,h3,h4,h5] ?hf bp (by kernel_rfl) rfl fun E hst=> ?_;case hf=>simp only[aT,a6,bd,ba,bc];exact rfl
  have I:=R hst;have N:=hst;obtain⟨an,ao,T,b4⟩:=fQ N an ao T b4;constructor
  ·obtain⟨cF,bv,a3,bq⟩:=f9.out
   have cx:b0=S->E.cell? ⟨a0,a2+(i-1)*4,F⟩=D (B o p.1.1)/\E.cell? ⟨a0,a2+(i-1)*4+1,F⟩=D (B o p.1.2.1)/\E.cell? ⟨a0,a2+(i-1)*4+2,F⟩=D (B o p.1.2.2):=fun h0=>by
    obtain⟨a1,c1,c2⟩:=f8.out h0;exact⟨V a1 N,V c1 N,V c2 N⟩
   have fw:=gf.out;iterate 20 refine⟨?_,fun K g=> ?_⟩
   ·trivial
   ·obtain rfl:=dV.out
    obtain rfl:=bN.out;obtain rfl:=dU.out;cases dz <;> cases b0 <;> cases aN <;> (go_simp;exact g _ I.out)
   ·obtain rfl:=dU.out
    obtain rfl:=bN.out;obtain rfl:=dT.out;generalize (b0 && aN)=M at g |-;cases M <;> (go_simp;exact g _ I.out)
   ·obtain rfl:=dT.out
    obtain rfl:=bN.out;obtain rfl:=dS.out;generalize (b0 && aN)=M at g |-;cases M <;> (go_simp;exact g _ I.out)
   ·obtain rfl:=dS.out
    obtain rfl:=bN.out;obtain rfl:=dR.out;generalize (b0 && aN)=M at g |-;cases M <;> (go_simp;exact g _ I.out)
   ·obtain rfl:=dR.out
    obtain rfl:=bN.out;generalize (b0 && aN)=M at g |-;cases M <;> (go_simp;exact g _ I.out)
   ·obtain rfl:=bN.out
    obtain rfl:=dQ.out;generalize (b0 && aN)=M at g |-;cases M <;> (go_simp;exact g _ I.out)
   ·obtain rfl:=dQ.out
    obtain rfl:=dO.out;cases b0 <;> cases aN <;> (go_simp;exact g _ I.out)
   ·obtain rfl:=dO.out
    obtain rfl:=dN.out;cases b0 <;> (go_simp;exact g _ I.out)
   ·obtain rfl:=dN.out
    obtain rfl:=d5.out;obtain rfl:=dM.out;cases b0 <;> first | (go_simp;exact g _ I.out;done) | (go_simp;exact aw (cC.out _) fun wc iI=>g _ (ax N iI))
   ·obtain rfl:=dM.out
    obtain rfl:=d7.out;cases b0 <;> (go_simp;exact g _ I.out)
   ·obtain rfl:=d7.out
    cases b0 <;> (go_simp;exact g _ I.out)
   ·obtain rfl:=d5.out
    obtain rfl:=d4.out;cases b0 <;> (go_simp;exact g _ I.out)
   ·obtain rfl:=d4.out
    obtain rfl:=d3.out;cases b0 <;> (go_simp;exact g _ I.out)
   ·obtain rfl:=d3.out
    obtain rfl:=dW.out;obtain rfl:=d2.out;cases b0 <;> (go_simp;exact g _ I.out)
   ·obtain rfl:=d2.out
    obtain rfl:=d1.out;cases b0 <;> (go_simp;exact g _ I.out)
   ·obtain rfl:=d1.out
    cases b0 <;> (go_simp;exact g _ I.out)
   ·obtain rfl:=dW.out
    cases b0 <;> (go_simp;exact g _ I.out)
   ·cases b0 <;> (go_simp;exact g _ I.out)
   iterate 2 (go_simp;exact g _ I.out)
  obtain rfl:=dV.out;clear dW d1 d2 d3 d4 d5 d7 dM dN dO dQ bN dR dS dT dU dV;obtain⟨cE,fY⟩:=aY (eG.out.below N) (aG dp.out N (am dp.out));obtain⟨jH,rfl⟩:=ai E;clear N eG dp hs gL
  cases hc:((b0 && aN) || dz) with
  | true=>
   have cV:¬eo L ms sts:=by
    intro bQ;obtain⟨cF,bv,a3⟩:=dk.out;rcases(gJ _ _).mp hc with h1 | h1
    ·obtain⟨ab,ag⟩:=(cu _ _).mp h1
     rw[cF] at ab;rw[bv] at ag;have ab:=of_decide_eq_true ab;have ag:=of_decide_eq_true ag;have az:=bQ.lt (i-1) p s (eD.out (by omega)) (by rw[show i-1+1=i by omega];exact aW.out);have iF:=(hZ p.1 s.1).2 az;rw[<-eJ.out] at iF;omega
    rw[a3] at h1;have ab:(s.2.length:Int)=0:=by simpa using h1
    exact bQ.ne i s aW.out (List.length_eq_zero_iff.1 (by omega))
   go_wp2;go_ret;exact⟨cW (eA.out cV).symm,cE.out.x.cb,fun h=>(cV h).elim⟩
  | false=>
   obtain⟨bB,bk⟩:=(Bool.or_eq_false_iff).mp hc;have fk:∀(j:Nat) (a:aP),j+1=i->sts[j]? =D a->c3 a.1 s.1:=by
    intro j a bU cK;obtain⟨cF,bv,a3⟩:=dk.out;have h1:=eD.out (by omega);rw[show i-1=j by omega,cK] at h1;cases h1
    refine(hZ _ _).1 ?_;rw[<-eJ.out];have ab:b0=S:=by rw[cF];exact decide_eq_true (by omega)
    rw[ab,ib,bv] at bB;have:=of_decide_eq_false bB;omega
   have fr:s.2≠ []:=by
    intro e;obtain⟨cF,bv,a3⟩:=dk.out;rw[a3,e] at bk;simp at bk
   have gB:∀(j:Nat) (a:aP),j < i->sts[j]? =D a->c3 a.1 s.1:=fun j a bU cK=>cE.out.inv.apart (fun fB hx hy h1 ab ag=>by
    by_cases e:fB+1=i
    ·have:hy=s:=by rw[e,aW.out] at ag;exact(cn ag).symm
     subst this;exact fk fB hx e ab
    ·exact cE.out.inv.lt fB hx hy (.inl (by omega)) ab ag) bU cK aW.out
   have fj:0 < s.2.length:=List.length_pos_iff.2 fr;have gC:∀(j:Nat) (a:aP),j < i->sts[j]? =D a->a.1≠s.1:=fun j a bU cK e=>gg s.1 (by have:=gB j a bU cK;rwa [e] at this);obtain⟨hG,hK,dj⟩:=cq fk fr gC;clear hc bB bk fk fr gB gC dk eD gf f8 f9 eJ cC
   go_wp2_with fail
   go_loopw [5,44] (fun c v wr=>∃q:Nat,q<=s.2.length/\v= B o q/\c= B o ((cv sts i q).length:Nat)/\Hid (hY w aA aS (O (D ⟨cD,0,F⟩) L.length eh) L ms sts ar aF aJ w.heap.size i q wr)/\Hid (wr.heap[P.heap.size]? =D (Y #[B o s.1.1, B o s.1.2.1, B o s.1.2.2, O bl s.2.length be] 56 (0,0)))) (fun _ v _=>s.2.length-(intOf v).toNat)
   case atStart=>exact⟨0,by omega,rfl,rfl,cE,fY⟩
   clear cE fY an ao T b4;obtain⟨q,hd,rfl,rfl,aI,bX⟩:=hrel;have jj:=aI.out.len;by_cases iV:q < s.2.length
   ·obtain⟨t,ht⟩:∃t,s.2[q]? =D t:=⟨_,bb iV⟩
    obtain⟨iD,ja,cI,fE,fF,fG⟩:=hM.out.pZ ht rfl;subst cI;have gW:=aI.out.x.cb;have bh:=fM.out.trans (gW.out gQ g0 gI);obtain⟨fE,fF,fG⟩:=lc bh fE fF fG;have ju:(q:Int) < (s.2.length:Int):=by omega
    have jt:(0:Int)<=(q:Int):=by omega
    obtain⟨an,ao,T,b4⟩:=dm bX.out;have g8:=eC.out.2 t (cH ht);have jC:=gW.size;have ci:=R ht;obtain⟨de,rfl⟩:=ai wr;have cO:=aV de (Y #[B o t.1, B o t.2.1, B o t.2.2] 53);have ei:=aQ de (Y #[B o t.1, B o t.2.1, B o t.2.2] 53);clear ht
    go_wp2_with fail
    obtain⟨M,bI,bL⟩:=dl ei;have gz:=aI.out.below cO;obtain⟨an,ao,T⟩:=lc cO an ao T;have gV:=aG bX.out cO (am bX.out);have i2:de.heap.size < (de.alloc (Y #[B o t.1, B o t.2.1, B o t.2.2] 53)).heap.size:=by simp
    obtain⟨ch,dq⟩:=aY gz gV;clear fE fF fG b4 aI bX gz gV ei bh;generalize de.alloc (Y #[B o t.1, B o t.2.1, B o t.2.2] 53)=w3 at M bI bL an ao T ch dq cO i2 |-;have dg:=ch.out.x.cd.a1;have b8:=ch.out.x.cb.cell dv.out.b8 cg.out.1 cg.out.2.1;have g4:=dv.out.num.heap (ch.out.x.cb.bT bz dv.out.num.lt cg.out.2.2.1 cg.out.2.2.2);obtain⟨J,dI⟩:∃k:Nat,k=if t ∈ L then L.idxOf t else 0:=⟨_,rfl⟩;have fg:J < L.length:=by rw[dI];split;exact gK (by assumption);exact gv
    have gX:(eH L t).getD 0=(J:Int):=by rw[dI];unfold eH;split <;> rfl
    have cR:∀W':ac,Below w3.heap.size w3 W'->(e2 70 (.map (D bz)) (bK t) S).run aj W'= .ok (.tuple #[B o (J:Int), aa (au (t ∈ L))]) W':=fun W' cL=>by
     have h1:=(g4.stay cL).look (a:=t) g8;rw[uN,gX] at h1;exact h1
    obtain⟨A,eQ⟩:=ai (au (t ∈ L));rw[<-eQ] at cR;obtain⟨fT,hI,fX⟩:=cq eQ cR dI;clear eQ cR gX g4 dI g8;refine bW (fin:= ?b4) [ad (D ⟨ar,0,F⟩), ad (D ⟨ar,0,F⟩), ad (D ⟨ar,0,F⟩), ad (D ⟨aA,0,F⟩), ad (D ⟨aA,0,F⟩), ad (D ⟨aA,5,F⟩), .map (D bz),bK t, .tuple #[B o (J:Int), aa A], .tuple #[B o (J:Int), aa A], B o (J:Int), aa A, B o (J:Int), aa A] ?hf bp (by kernel_rfl) rfl fun E hst=> ?_;case hf=>simp only[aT,a6,bd,ba,bc];exact rfl
    have I:=R hst;have N:=hst;obtain⟨dg,b8,M,bI,bL,an,ao,T⟩:=md N dg b8 M bI bL an ao T;constructor
    ·iterate 14 refine⟨?_,fun K g=> ?_⟩
     ·trivial
     all_goals try (go_simp;exact g _ I.out;done)
     have cR:=hI.out E N;go_simp;exact g _ I.out
    have eY:=ch.out.below N;have ev:=R (aG dq.out N (am dq.out));obtain⟨hz,rfl⟩:=ai E;obtain⟨hw,iO,fv⟩:=eY.seen;obtain⟨c1,bB⟩:∃c:Int,c=(g6 L sts i q (J:Int)).getD 0:=⟨_,rfl⟩;have jg:c1=0∨c1=1:=by rw[bB];unfold g6;split;exact .inr rfl;exact .inl rfl
    have fh:mU.ok (J:Int):=by show bj _;unfold bj;omega
    have iL:(e2 149 (.map (D w.heap.size)) (B o (J:Int)) Q).run aj hz= .ok (B o c1) hz:=by rw[bB];exact fv.gZ fh
    obtain⟨c2,bk⟩:∃c:Int,c=c1+1:=⟨_,rfl⟩;have jy:b7.wrap (c1+1)=c2:=by rw[bk];exact ca _ (by omega)
    have jh:1<=c2/\c2<=2:=by omega
    obtain⟨fS,fR,eI,bt⟩:=df bk bB fv eY;clear bk bB fv eY N ch dq dg b8 M bI bL an ao T cO
    go_wp2_with (at_mapUpdate;go_loud (refine mn (k:=mU) rfl _ _ _ rfl eI.out rfl (by unfold maxLen;omega) (J:Int) fh c2 rfl rfl (nB (by unfold bj;omega)) ?_);intro hB fo fb)
    have fu:=eI.out.is;have cr:=bt.out.x.other fb fu ce g1;have fe:=(fb.block _ (am ev.out) (k1 ev.out fu)).trans ev.out;have c5:=ey hN.out (qI (ms:=ms) fg);obtain⟨bu,e0⟩:=ai (bA L ms J);rw[<-e0] at c5;have u0:=cr.cb.cell c5.1 e6 e7;have u1:=cr.cb.cell c5.2.1 e6 e7;have u2:=cr.cb.cell c5.2.2 e6 e7;have fI:=cr.cd.c2;obtain⟨an,ao,T⟩:=dl fe;have fi:∀W':ac,Below hB.heap.size hB W'->(e2 149 (.map (D w.heap.size)) (B o (J:Int)) Q).run aj W'= .ok (B o c2) W':=fun W' cL=>by
     have h1:=(fo.stay cL).gZ fh;rw[show dX (g6 L sts i q) (J:Int) c2 (J:Int)=D c2 by unfold dX;rw[if_pos rfl]] at h1;exact h1
    have jr:(J:Int) < (L.length:Int):=by omega
    have jq:(0:Int)<=(J:Int):=by omega
    have g3:∀w,(binOp .neq 53 (bK bu) (bK s.1)).run aj w= .ok (aa (!au (bu=s.1))) w:=fun w=>by rw[<-jE];exact jJ bu.1 bu.2.1 bu.2.2 s.1.1 s.1.2.1 s.1.2.2 w
    obtain⟨aC,bS⟩:=ai (au (1 < c2));obtain⟨aM,cN⟩:=ai ((!au (bu=s.1)));rw[<-cN] at g3;obtain⟨fZ,gm,ew,f2,gi,fN⟩:=ft fi cr fe fo e0 (a7 bS cN);have gF:=bS.symm;have gb:=R gF;have iP:hw<=(cv sts i q).length:=iO;clear fu cr fe c5 fi iL fb fo e0 bS cN gF eI
    go_wp2_with fail
    obtain⟨ig,d8⟩:∃y:ae,Hid (y= aa (!A)):=⟨_,R rfl⟩;obtain⟨iu,bO⟩:∃y:ae,Hid (y= aa (!A)):=⟨_,R rfl⟩;obtain⟨iv,el⟩:∃y:ae,Hid (y=(bif A then .map (D w.heap.size) else U)):=⟨_,R rfl⟩;obtain⟨iw,em⟩:∃y:ae,Hid (y=(bif A then B o (J:Int) else U)):=⟨_,R rfl⟩;obtain⟨ix,ep⟩:∃y:ae,Hid (y=(bif A then B o c2 else U)):=⟨_,R rfl⟩;obtain⟨iy,eq⟩:∃y:ae,Hid (y=(bif A then aa aC else U)):=⟨_,R rfl⟩;obtain⟨iz,er⟩:∃y:ae,Hid (y= aa ((!A) || aC)):=⟨_,R rfl⟩;obtain⟨iA,a4⟩:∃y:ae,Hid (y= aa ((!A) || aC)):=⟨_,R rfl⟩;obtain⟨iB,es⟩:∃y:ae,Hid (y=(bif (!((!A) || aC)) then ad (D ⟨ar,0,F⟩) else U)):=⟨_,R rfl⟩
    obtain⟨ih,d9⟩:∃y:ae,Hid (y=(bif (!((!A) || aC)) then ad (D ⟨ar,0,F⟩) else U)):=⟨_,R rfl⟩;obtain⟨ii,ea⟩:∃y:ae,Hid (y=(bif (!((!A) || aC)) then ad (D ⟨ar,2,F⟩) else U)):=⟨_,R rfl⟩;obtain⟨ij,eb⟩:∃y:ae,Hid (y=(bif (!((!A) || aC)) then O (D ⟨cD,0,F⟩) L.length eh else U)):=⟨_,R rfl⟩;obtain⟨ik,ec⟩:∃y:ae,Hid (y=(bif (!((!A) || aC)) then B o (J:Int) else U)):=⟨_,R rfl⟩;obtain⟨il,ed⟩:∃y:ae,Hid (y=(bif (!((!A) || aC)) then ad (D ⟨cD,J*3,F⟩) else U)):=⟨_,R rfl⟩;obtain⟨im,ee⟩:∃y:ae,Hid (y=(bif (!((!A) || aC)) then bK bu else U)):=⟨_,R rfl⟩;obtain⟨io,ef⟩:∃y:ae,Hid (y=(bif (!((!A) || aC)) then ad (D ⟨P.heap.size,0,F⟩) else U)):=⟨_,R rfl⟩
    obtain⟨ip,eg⟩:∃y:ae,Hid (y=(bif (!((!A) || aC)) then bK s.1 else U)):=⟨_,R rfl⟩;obtain⟨iq,ej⟩:∃y:ae,Hid (y=(bif (!((!A) || aC)) then aa aM else U)):=⟨_,R rfl⟩;obtain⟨it,ek⟩:∃y:ae,Hid (y= aa (((!A) || aC) || aM)):=⟨_,R rfl⟩;refine bW (fin:= ?z5) [aa A,ig,iu,iv,iw,ix,iy,iz,iA,iB,ih,ii,ij,ik,il,im,io,ip,iq,it] ?hf bp (by kernel_rfl) rfl fun E hst=> ?_;case hf=>simp only[aT,a6,bd,ba,bc];exact rfl
    have I:=R hst;have N:=hst;obtain⟨fI,u0,u1,u2,an,ao,T⟩:=kD N fI u0 u1 u2 an ao T;constructor
    ·have bS:=gb.out
     have fi:=fZ.out E N;iterate 20 refine⟨?_,fun K g=> ?_⟩
     ·trivial
     ·obtain rfl:=ek.out
      obtain rfl:=a4.out;obtain rfl:=ej.out;cases aM <;> cases aC <;> cases A <;> (go_simp;exact g _ I.out)
     ·obtain rfl:=ej.out
      obtain rfl:=a4.out;obtain rfl:=ee.out;obtain rfl:=eg.out;generalize ((!A) || aC)=M at g |-;cases M <;> (go_simp;exact g _ I.out)
     ·obtain rfl:=eg.out
      obtain rfl:=a4.out;obtain rfl:=ef.out;generalize ((!A) || aC)=M at g |-;cases M <;> (go_simp;exact g _ I.out)
     ·obtain rfl:=ef.out
      obtain rfl:=a4.out;generalize ((!A) || aC)=M at g |-;cases M <;> (go_simp;exact g _ I.out)
     ·obtain rfl:=ee.out
      obtain rfl:=a4.out;obtain rfl:=ed.out;generalize ((!A) || aC)=M at g |-;cases M <;> (go_simp;exact g _ I.out)
     ·obtain rfl:=ed.out
      obtain rfl:=a4.out;obtain rfl:=eb.out;obtain rfl:=ec.out;generalize ((!A) || aC)=M at g |-;cases M <;> (go_simp;exact g _ I.out)
     ·obtain rfl:=ec.out
      obtain rfl:=a4.out;generalize ((!A) || aC)=M at g |-;cases M <;> (go_simp;exact g _ I.out)
     ·obtain rfl:=eb.out
      obtain rfl:=a4.out;obtain rfl:=ea.out;generalize ((!A) || aC)=M at g |-;cases M <;> (go_simp;exact g _ I.out)
     ·obtain rfl:=ea.out
      obtain rfl:=a4.out;obtain rfl:=d9.out;generalize ((!A) || aC)=M at g |-;cases M <;> (go_simp;exact g _ I.out)
     ·obtain rfl:=d9.out
      obtain rfl:=a4.out;obtain rfl:=es.out;generalize ((!A) || aC)=M at g |-;cases M <;> (go_simp;exact g _ I.out)
     ·obtain rfl:=es.out
      obtain rfl:=a4.out;generalize ((!A) || aC)=M at g |-;cases M <;> (go_simp;exact g _ I.out)
     ·obtain rfl:=a4.out
      obtain rfl:=er.out;generalize ((!A) || aC)=M at g |-;cases M <;> (go_simp;exact g _ I.out)
     ·obtain rfl:=er.out
      obtain rfl:=bO.out;obtain rfl:=eq.out;cases A <;> cases aC <;> (go_simp;exact g _ I.out)
     ·obtain rfl:=eq.out
      obtain rfl:=bO.out;obtain rfl:=ep.out;cases A <;> (go_simp;exact g _ I.out)
     ·obtain rfl:=ep.out
      obtain rfl:=bO.out;obtain rfl:=el.out;obtain rfl:=em.out;cases A <;> (go_simp;exact g _ I.out)
     ·obtain rfl:=em.out
      obtain rfl:=bO.out;cases A <;> (go_simp;exact g _ I.out)
     ·obtain rfl:=el.out
      obtain rfl:=bO.out;cases A <;> (go_simp;exact g _ I.out)
     ·obtain rfl:=bO.out
      obtain rfl:=d8.out;generalize (!A)=M at g |-;cases M <;> (go_simp;exact g _ I.out)
     ·obtain rfl:=d8.out
      cases A <;> (go_simp;exact g _ I.out)
     ·cases A <;> (go_simp;exact g _ I.out)
    obtain rfl:=ek.out;clear d8 bO el em ep eq er a4 es d9 ea eb ec ed ee ef eg ej ek;obtain⟨bP,dr,f4⟩:=cq (gm.out.below N) (aG ew.out N (am ew.out)) (f2.out.stay N);obtain⟨cA,rfl⟩:=ai E;clear N gm ew f2 fI u0 u1 u2 an ao T g3 fZ gb
    cases hc:(((!A) || aC) || aM) with
    | true=>
     have cV:¬eo L ms sts:=by
      intro bQ;obtain⟨cz,b9,dZ⟩:=bQ.ay i s q t aW.out ci.out;have bF:J=L.idxOf t:=by rw[fX.out,if_pos cz]
      have cJ:A=S:=by rw[fT.out];exact decide_eq_true cz
      obtain⟨a3,bq⟩:=fN.out;have cN:aM=Q:=by rw[bq,gi.out,bF,b9];simp
      rw[cJ,cN] at hc;have bS:aC=S:=by simpa using hc
      rw[a3] at bS;have h1:=of_decide_eq_true bS;have ab:=fR.out;rw[bF,vB (fun u bG=>bt.out.inv.mem bG) cz] at ab;have ag:=fS.out;by_cases aH:t ∈ cv sts i q
      ·exact bt.out.inv.Dn aW.out ci.out aH bQ
      rw[if_neg aH] at ab;omega
     go_wp2;go_ret;exact⟨cW (eA.out cV).symm,bP.out.cb,fun h=>(cV h).elim⟩
    | false=>
     have cJ:A=S:=by
      cases A with
      | true=>rfl
      | false=>simp at hc
     have c0:t ∈ L:=by have:=fT.out;rw[cJ] at this;exact of_decide_eq_true this.symm
     have bF:J=L.idxOf t:=by rw[fX.out,if_pos c0]
     obtain⟨a3,bq⟩:=fN.out;have e9:aC=Q/\aM=Q:=by
      rw[cJ] at hc;cases aC <;> cases aM <;> simp at hc |-
     have bk:c2=1:=by
      rw[e9.1] at a3;have:=of_decide_eq_false a3.symm;omega
     have gN:c1=0:=by have:=fS.out;omega
     have fx:t ∉ cv sts i q:=by
      intro aH;have ab:=fR.out;rw[bF,vB (fun u bG=>bt.out.inv.mem bG) c0,if_pos aH] at ab;omega
     have gD:bA L ms (L.idxOf t)=s.1:=by
      rw[e9.2] at bq;have h1:au (bu=s.1)=S:=by simpa using bq.symm
      have ab:=of_decide_eq_true h1;rw[<-bF,<-gi.out];exact ab
     have fl:=fun bH av h=>Ab aW.out ci.out bt.out.inv c0 fx bH av h;rw[<-bF] at fl;have bE:=tH (L:=L) aW.out hd dj.out;obtain⟨jF,f,iQ,ck⟩:=bP.out.map;have dJ:=ck.val s.1;obtain⟨G,cj⟩:=ai (fO L sts i q s.1);rw[<-cj] at dJ bE;rw[bE] at dJ;obtain⟨fK,gr,ho,_⟩:=dd dJ;have g7:bj s.1.1/\bj s.1.2.1/\bj s.1.2.2:=eC.out.1;have gY:∀W':ac,Below cA.heap.size cA W'->(e2 60 (.map (D aJ)) (bK s.1) Q).run aj W'= .ok (O fK q gr) W':=fun W' cL=>by
      have h1:=(ck.map.stay cL).gZ (a:=s.1) g7;rw[<-ho];exact h1
     have dh:=bP.out.cd.bV;have a8:=bP.out.cd.bC;obtain⟨an,ao,T⟩:=dl dr.out;obtain⟨f0,f1⟩:=aY gY fl;have gh:=R (a7 c0 (a7 fx (a7 gD (a7 bF (a7 bk gN)))));clear hc cJ c0 bF a3 bq e9 bk gN fx gD fl bE cj ck dJ ho g7 gY iQ
     go_wp2_with fail
     refine mb (fin:= ?z6) [14] [13,12,3,4,11,2,8,10,1,7,9,0,6,5] [S,S,S,S,S,S,S,S,S,S,S,S,S,S,Q] [Q,Q,Q,Q,Q,Q,Q,Q,Q,Q,Q,Q,Q,Q,Q] (fun x=> [ad (D ⟨ar,0,F⟩), ad (D ⟨ar,0,F⟩), ad (D ⟨ar,3,F⟩), O (D ⟨aF,0,F⟩) L.length L.length, B o (J:Int), ad (D ⟨ar,0,F⟩), ad (D ⟨ar,0,F⟩), ad (D ⟨ar,4,F⟩), .map (D aJ), ad (D ⟨P.heap.size,0,F⟩),bK s.1, O fK q gr, B o (q:Int), ad (D ⟨aF,J,F⟩),(x 0)]) (fun j _ E=>match j with | 0=>E.cell? ⟨ar,3,F⟩=D (O (D ⟨aF,0,F⟩) L.length L.length)/\E.cell? ⟨ar,4,F⟩=D (.map (D aJ))/\E.cell? ⟨P.heap.size,0,F⟩=D (B o s.1.1)/\E.cell? ⟨P.heap.size,1,F⟩=D (B o s.1.2.1)/\E.cell? ⟨P.heap.size,2,F⟩=D (B o s.1.2.2)/\Below cA.heap.size cA E | _=>∃bo:ac,(bo.cell? ⟨ar,3,F⟩=D (O (D ⟨aF,0,F⟩) L.length L.length)/\bo.cell? ⟨ar,4,F⟩=D (.map (D aJ))/\bo.cell? ⟨P.heap.size,0,F⟩=D (B o s.1.1)/\bo.cell? ⟨P.heap.size,1,F⟩=D (B o s.1.2.1)/\bo.cell? ⟨P.heap.size,2,F⟩=D (B o s.1.2.2)/\Below cA.heap.size cA bo)/\E=bo.setCell ⟨aF,J,F⟩ (B o (q:Int))) ?hf (by kernel_rfl) (by kernel_rfl) (fun _=>rfl) (by kernel_rfl) ?hv ⟨dh,a8,an,ao,T,aX.drew⟩ (fun x E hst=> ?b2) ?aK ?bi (fun x E hst=> ?_)
     case hf=>intro x;simp only[aT,a6,bd,ba,bc];exact rfl
     case hv=>
      intro x j t v h;cases j with
      | zero=>cases h;rfl
      | succ j=>simp at h
     case b2=>
      have aE:=R hst;obtain⟨dh,a8,an,ao,T,N⟩:=hst;iterate 14 refine⟨?_,fun K g=> ?_⟩
      ·trivial
      all_goals try (go_simp;exact g _ aE.out;done)
      have cR:=f0.out E N;go_simp;exact g _ aE.out
     case aK=>intro j x E _ _ _;trivial
     case bi=>
      intro j t x E ht hst af bs K g;obtain rfl:j=0:=by cases j with | zero=>rfl | succ j=>simp at ht
      cases ht;cases bs
      have aE:=R hst;obtain⟨dh,a8,an,ao,T,N⟩:=hst;have dD:=bP.out.below N;obtain⟨bH,i8,fD,_⟩:=dD.c8;have eu:=br fD J;have js:=am fD;have iJ:=aB fD J;rw[List.getElem?_toArray,p7 (by rw[i8];exact fg)] at iJ;go_simp;exact g U _ ⟨_,aE.out,rfl⟩
     obtain⟨bo,hst,gA⟩:=hst;obtain⟨dh,a8,an,ao,T,N⟩:=hst;have e3:=(bP.out.below N).rr gR fg (cM:=q+1) (r:=q) (fun bH av h=>f1.out bH av h) fd;have cQ:=aG dr.out N (am dr.out);have cT:=f4.out.stay N;have i3:P.heap.size≠aF:=by omega
     have cQ:=eV (p:=⟨aF,J,F⟩) cQ i3 (B o (q:Int));have iX:w.heap.size≠aF:=by omega
     have cT:=cT.heap (Z:=bo.setCell ⟨aF,J,F⟩ (B o (q:Int))) (Below.heap_setCell _ _ _ _ iX);rw[<-gA] at e3 cQ cT;obtain⟨dw,dt,f5⟩:=cq e3 cQ cT;obtain⟨c9,rfl⟩:=ai E;clear e3 cQ cT N dh a8 an ao T gA bP dr f4 f0 f1
     go_wp2_with fail
     obtain⟨n,f,hn,gw⟩:=dw.out.map;have bE:=tH (L:=L) aW.out hd dj.out;have iT:q<=(cv sts i q).length:=by unfold cv;rw[aW.out];simp;omega
     have eU:(cv sts i q).length<=L.length:=bt.out.len;obtain⟨a9,fA⟩:=ai (c9.drew);obtain⟨cB,dK⟩:=ai (a9.alloc (Y #[B o ((J:Nat):Int)] 3));have eO:Below c9.heap.size c9 a9:=by rw[fA];exact aX.drew
     have gO:Below a9.heap.size a9 cB:=by rw[dK];exact aV a9 _
     have cG:Below c9.heap.size c9 cB:=eO.trans (gO.mono eO.size);have cl:=gw.below cG;have e4:=dw.out.below cG;have ff:=aG dt.out cG (am dt.out);have eW:=f5.out.stay cG;have jx:=e4.cb.size;have hi:=eW.is;obtain⟨b6,db,af,bZ,cP,bs,hk⟩:=cl.map.enter pi (by unfold maxLen;omega) (a:=s.1) eC.out.1;have bZ:(Instr.mapEntry 60 (.map (D aJ)) (bK s.1)).run aj cB= .ok (.tuple #[(f s.1).getD (O F 0 0),b6]) db:=bZ;have hval:=cl.val s.1;have hnm:=eN hval cl.map.is;have hns:=dy hval ff (by decide);have fq:=eN hval hi;have cZ:=hval.kept cP (.inr hnm);have gU:db.heap[a9.heap.size]? =D (Y #[B o ((J:Nat):Int)] 3 (0,0)):=by
      have h1:cB.heap[a9.heap.size]? =D (Y #[B o ((J:Nat):Int)] 3 (0,0)):=by rw[dK];exact aQ a9 _
      refine(cP.block _ (am h1) (fun e=> ?_)).trans h1;obtain⟨dA,c,aH⟩:=cl.map.is;rw[<-cn e,h1] at aH;cases aH
     obtain⟨b5,eR⟩:=ai ((f s.1).getD (O F 0 0));rw[<-eR] at bZ cZ hnm hns fq;obtain⟨G,cj⟩:=ai (fO L sts i q s.1);rw[<-cj] at cZ bE;rw[bE] at cZ;have iY:=cP.size;have iU:q+1<=2147483648:=by omega
     have i1:w.heap.size<=db.heap.size:=by omega
     have a8:=dw.out.cd.bC;obtain⟨an,ao,T⟩:=dl dt.out;obtain⟨f7,gp,fW,ez,gd,dn,eB,ge,fU,et,gc,fV,gj,gl,du,f6⟩:=tL cl e4 ff eW bZ cP bs hk eR (a7 cj bE) cZ gU dK fA (a7 hnm (a7 hns fq)) hn;clear hn gw bE iT eU fA dK eO gO cG cl e4 ff eW hi bZ cP bs hk hval hnm hns fq cZ gU eR cj iY;refine ir (fin:= ?z7) [7,8,10,12] [[S,S,S,S,S,S,S,Q,Q,Q,Q,Q,Q], [S,S,S,S,S,S,Q,Q,Q,Q,Q,Q,Q], [Q,Q,Q,Q,Q,Q,S,Q,Q,S,Q,S,Q], [Q,Q,Q,Q,Q,Q,Q,Q,Q,Q,Q,S,Q], [Q,Q,Q,Q,Q,Q,Q,Q,Q,Q,Q,Q,Q]] [[6], [3,5,2,4,1,0], [9,7,8,6,3,5,2,4,1,0], [3,11,10,2,8,9,7,1,5,6,0,4]] (fun x=> [ad (D ⟨ar,0,F⟩), ad (D ⟨ar,0,F⟩), ad (D ⟨ar,4,F⟩), .map (D aJ), ad (D ⟨P.heap.size,0,F⟩),bK s.1, B o (J:Int),(x 0),(x 1),b5,(x 2),b6,(x 3)]) (fun j x E=>match j with | 0=>Hid (E=a9)/\E.cell? ⟨ar,4,F⟩=D (.map (D aJ))/\E.cell? ⟨P.heap.size,0,F⟩=D (B o s.1.1)/\E.cell? ⟨P.heap.size,1,F⟩=D (B o s.1.2.1)/\E.cell? ⟨P.heap.size,2,F⟩=D (B o s.1.2.2) | 1=>Hid (E=cB)/\Hid (x 0= O (D ⟨a9.heap.size,0,F⟩) 1 1)/\E.cell? ⟨ar,4,F⟩=D (.map (D aJ))/\E.cell? ⟨P.heap.size,0,F⟩=D (B o s.1.1)/\E.cell? ⟨P.heap.size,1,F⟩=D (B o s.1.2.1)/\E.cell? ⟨P.heap.size,2,F⟩=D (B o s.1.2.2) | 2=>Hid (E=db)/\Hid (x 0= O (D ⟨a9.heap.size,0,F⟩) 1 1)/\Hid (x 1= .tuple #[b5,b6]) | 3=>Hid (x 1= .tuple #[b5,b6])/\Hid (E.ownsRow w.heap.size 3 1 (x 2) (q+1) (di G++ [B o ((J:Nat):Int)]))/\Hid (fm db E b5 (x 2)) | _=>Hid (hl w aA aS (O (D ⟨cD,0,F⟩) L.length eh) L sts ar aF aJ i (q+1) (q+1) E)/\Hid (E.heap[P.heap.size]? =D (Y #[B o s.1.1, B o s.1.2.1, B o s.1.2.2, O (D ⟨iD,ja,F⟩) s.2.length be] 56 (0,0)))/\Hid (co mU E w.heap.size (hw+1) (dX (g6 L sts i q) (J:Int) c2))) ?hf (by kernel_rfl) (by kernel_rfl) (fun _=>rfl) (by kernel_rfl) ?hv ⟨gl.out▸R rfl,a8,an,ao,T⟩ ?hA ?bi (fun x E hst=> ?he)
     case hf=>intro x;simp only[aT,a6,bd,ba,bc];exact rfl
     case hv=>
      intro x j t v h
      cases j with
      | zero=>cases h;rfl
      | succ j=>
       cases j with
       | zero=>cases h;rfl
       | succ j=>
        cases j with
        | zero=>cases h;rfl
        | succ j=>
         cases j with
         | zero=>cases h;rfl
         | succ j=>
          simp at h
     case hA=>
      intro j x E bU hst;have bU:j<=4:=bU;rcases(show j=0∨j=1∨j=2∨j=3∨j=4 by omega) with rfl | rfl | rfl | rfl | rfl
      ·have aE:=R hst
       obtain⟨hW,a8,an,ao,T⟩:=hst;iterate 7 refine⟨?_,fun K g=> ?_⟩
       ·trivial
       all_goals try (go_simp;exact g _ aE.out;done)
      ·have aE:=R hst
       obtain⟨hW,c6,a8,an,ao,T⟩:=hst;iterate 6 refine⟨?_,fun K g=> ?_⟩
       ·trivial
       all_goals try (go_simp;exact g _ aE.out;done)
      ·have aE:=R hst
       obtain⟨hW,c6,a5⟩:=hst;iterate 3 refine⟨?_,fun K g=> ?_⟩
       ·trivial
       all_goals try (go_simp;exact g _ aE.out;done)
       ·have a5:=a5.out
        have bw:=g _ aE.out;rw[a5] at bw |-;go_simp;exact bw
       have a5:=a5.out;have bw:=g _ aE.out;rw[a5] at bw |-;go_simp;exact bw
      ·have aE:=R hst
       obtain⟨a5,cX,gS⟩:=hst;iterate 1 refine⟨?_,fun K g=> ?_⟩
       ·trivial
       have a5:=a5.out;have bw:=g _ aE.out;rw[a5] at bw |-;go_simp;exact bw
      ·trivial
     case bi=>
      intro j t x E ht hst af bs K g
      cases j with
      | zero=>
       cases ht;cases bs
       obtain⟨hW,a8,an,ao,T⟩:=hst;go_simp;exact g (O (D ⟨E.heap.size,0,F⟩) 1 1) _ ⟨R (by rw[hW.out];exact gj.out.symm),R (congrArg (fun W:ac=>Value.slice (D ⟨W.heap.size,0,F⟩) 1 1) hW.out),aD a8 (Y #[B o ((J:Nat):Int)] 3),aD an (Y #[B o ((J:Nat):Int)] 3),aD ao (Y #[B o ((J:Nat):Int)] 3),aD T (Y #[B o ((J:Nat):Int)] 3)⟩
      | succ j=>
       cases j with
       | zero=>
        cases ht;cases bs
        obtain⟨hW,c6,a8,an,ao,T⟩:=hst;have bZ:=gd.out;rw[<-hW.out] at bZ;go_simp;exact g (.tuple #[b5,b6]) _ ⟨R rfl,c6,R rfl⟩
       | succ j=>
        cases j with
        | zero=>
         cases ht;cases bs
         obtain⟨hW,c6,a5⟩:=hst;have cX:=gc.out;have gT:=fV.out;have hsz:=i1;rw[<-hW.out] at cX gT hsz;refine nv Tryz.underlying22 mT rfl (by decide) (by decide) rfl _ _ rfl w.heap.size b5 q (di G) [B o ((J:Nat):Int)] rfl cX hsz 1 a9.heap.size c6.out gT rfl (fun u bG=>by rw[List.mem_singleton] at bG;subst bG;rfl) iU (fun jb jc h1 ab ag=>g jb jc ⟨a5,R h1,R (by rw[<-hW.out];exact ag)⟩)
        | succ j=>
         cases j with
         | zero=>
          cases ht;cases bs
          obtain⟨a5,cX,gS⟩:=hst;have dH:=gS.out;have iS:=(dH.grown.block aJ (am eB.out) (fun e=>du.out.1 e.symm)).trans eB.out;obtain⟨fH,ap,ak,eM⟩:=ge.out (x 2) E iS;have ap:(Instr.entryStore 60 (.map (D aJ)) b6 (x 2)).run aj E= .ok () fH:=ap;go_simp;have gP:=dH;rw[fU.out] at gP;have iW:E.ownsRow w.heap.size 3 1 (x 2) ((fO L sts i q s.1).length+1) (di (fO L sts i q s.1++ [L.idxOf t])):=by rw[<-et.out.1,et.out.2,<-gh.out.2.2.2.1,show di (G++ [J])=di G++ [B o ((J:Nat):Int)] by simp[di]];exact cX.out
          have iG:=gp.out.rJ f6.out f7.out dn.out gP iW ak eM aW.out ci.out dj.out i6 fd g1 gR i7;refine g U fH ⟨R iG,R (oT dn.out dH eM fW.out ?_ du.out.2.1),R ?_⟩;·omega
          ·exact ez.out.heap (show fH.heap[w.heap.size]? =cB.heap[w.heap.size]? by obtain⟨dA,c,aH⟩:=ez.out.is;rw[aH];exact oT dn.out dH eM aH (by omega) du.out.2.2)
         | succ j=>
          simp at ht
     obtain⟨dD,bX,ck⟩:=hst;clear a8 an ao T dw dt f5 f7 gp fW ez gd dn eB ge fU et gc fV gj gl du f6;have dE:((cv sts i (q+1)).length:Int)=((cv sts i q).length:Int)+1:=by rw[lV aW.out ci.out];simp
     have eU:(cv sts i q).length<=L.length:=bt.out.len;obtain⟨bv,a3,bq,gt,gu,iE⟩:=gh.out;have fp:=ck.out;rw[gt,gu] at fp;have eZ:=R (bt.out.step aW.out ci.out hK.out hG.out bv a3 bq dD.out iP fp);have i4:b7.wrap (((cv sts i q).length:Int)+1)=((cv sts i (q+1)).length:Int):=by rw[dE];exact ca _ (by omega)
     have jA:b7.wrap ((q:Int)+1)=((q+1:Nat):Int):=by rw[ca _ (by omega)];omega
     clear bv a3 bq gt gu iE fp dD ck dE eU;go_wp2;go_roundw
     case rel=>exact⟨q+1,by omega,by first | rfl | go_num,by first | rfl | exact congrArg _ i4,eZ,bX⟩
     case measure=>simp[intOf];omega
   obtain rfl:q=s.2.length:=by omega
   have dE:((cv sts (i+1) 0).length:Int)=((cv sts i s.2.length).length:Int):=by rw[o5 aW.out]
   have eZ:=R (aI.out.next aW.out fj dj.out);have jz:b7.wrap ((i:Int)+1)=((i+1:Nat):Int):=by rw[ca _ (by omega)];omega
   clear aI bX;go_wp2;go_roundw
   case rel=>exact⟨i+1,by omega,by first | rfl | go_num,by rw[dE],eZ⟩
   case measure=>simp[intOf];omega
 obtain rfl:i=sts.length:=by omega
 have dg:=aI.out.x.cd.a1;have bC:=aI.out.x.cb.cell dv.out.bC cg.out.1 cg.out.2.1;obtain⟨cC,eP⟩:∃c:Int,c=((cv sts sts.length 0).length:Int):=⟨_,rfl⟩;rw[<-eP];obtain⟨iC,gG⟩:∃b,(cC==(L.length:Int))=b:=⟨_,rfl⟩;obtain⟨fP,hC⟩:=aY gG eP;clear gG eP;obtain⟨P,rfl⟩:=ai wr
 go_wp2_with fail
 have bR:=aI.out;have iH:(cC==(L.length:Int))=eK:=by
  rw[fP.out];have h1:=fP.out;rw[hC.out] at h1
  cases iC with
  | true=>
   have ab:(cv sts sts.length 0).length=L.length:=by have:=eq_of_beq h1;omega
   rw[n3,List.take_length] at ab;exact(hP.out (bR.inv.done ab)).symm
  | false=>
   refine(eA.out fun bQ=> ?_).symm;have ab:=bQ.many;rw[<-List.take_length (l:=sts),<-n3] at ab;rw[ab] at h1;simp at h1
 obtain⟨n,f,i9,hu⟩:=bR.x.map;have iK:=bR.len;obtain⟨hD,hE⟩:=aY (show qA w aA aS (O (D ⟨cD,0,F⟩) L.length eh) L sts ar aF aJ P from⟨bR.x.cd,bR.x.c8,n,f,by omega,hu⟩) bR.x.cb;clear bR i9 hu iK aI dg bC;go_ret;exact⟨cW iH,hE.out,fun _=>hD.out⟩
end
section
open Go.RowKit Go.Maps
theorem mY:(Tryz.prog.info? 64).map (fun i=>(i.zero,i.size,i.bytes))=D (D (aq #[B o 0, B o 0, B o 0, B o 0, B o 0, B o 0]),6,48):=by kernel_rfl
theorem m1(ms:List aR):∀u ∈ b5 ms,u.oneCell'=S:=by
 intro u r;simp only[b5,hj,dC,List.not_mem_nil,or_false] at r;obtain⟨c,_,h⟩:=r;rcases h with rfl | rfl | rfl | rfl | rfl | rfl <;> rfl
theorem wN{ops:Array Oper}{rest:List Oper}{af:Oper}{a:Act}{G:Exit->Act->ac->Prop}(L:af.guard=F)(s x:Operand){w:ac}
  (P:af.op= .call {callee:= .builtin .append,args:=#[s,x],argTypes:=#[26,26]})
  (l:Nat) (v:ae) (T:a.eval s=v) (y:w.ownsRow l 64 6 v 0 []) (I:l<=w.heap.size)
  (b g m c:Nat) (ms:List aR) (V:a.eval x= O (D ⟨b,g,F⟩) m c) (A:Rd w 6 (D ⟨b,g,F⟩) m (b5 ms)) (hn:m<=1000)
  (h:∀a8 Z,Z.ownsRow l 64 6 a8 m (b5 ms)->Below l w Z->wpList aj ops G rest (a.put af.dst a8) Z):
  wpList aj ops G (af::rest) a w:=by
 obtain⟨am,al,ah,ai,ak⟩:=info_parts mY;refine wpList_append_own_at _ L s x 26 P l 64 am _ 6 48 Tryz.underlying26 al ah ai ak rfl (by decide) v 0 [] T y ⟨b,g,F⟩ m c (b5 ms) V A.1 ?_
  (m1 ms) (by simp only[maxLen];omega) (by omega) I ?_
 ·intro j u r
  rw[fW];have N:0 < m:=by
   have:=(bM.1 r).1;have:=A.1;omega
  obtain⟨an,ao,e,_,hc⟩:=A.2 N;simp only[mA,Addr.mk.injEq,and_true] at e;obtain⟨rfl,rfl⟩:=e;exact hc j u r
 intro a8 Z h1 ab _ ag;exact h a8 Z (by simpa using h1) (aX.grown ab I (fun k M=>(y.lt k M).1))
theorem xz(b g n c:Nat)(ms:List aR)(w:ac)(h:Rd w 6 (D ⟨b,g,F⟩) n (b5 ms))(hn:n<=1000):
  Calls aj 45 #[O (D ⟨b,g,F⟩) n c] w fun e Z=>∃v,e= .returned v/\Z.ownsRow w.heap.size 64 6 v n (b5 ms)/\Below w.heap.size w Z:=by
 have ap:∀(w:ac) (a:Option Addr) (n c E z:Nat),(binOp .eql 26 (O a n c) (O F E z)).run aj w= .ok (aa a.isNone) w:=fun w a n c E z=>Lib.run_eql_slice_nil w _ _ a n c E z Tryz.underlying26;have J:=R h;clear h;go_in
 go_wp2_with (at_builtin;refine wN rfl (.tmp 5) (.tmp 6) rfl w.heap.size _ rfl (World.ownsRow_made w #[] 0 ce (Nat.zero_le _) rfl) (by simp) b g n c ms rfl (J.out.alloc _) (by omega) ?_;intro a8 Z y K)
 go_wp2;go_ret;exact⟨a8,rfl,y,(aV w _).trans (K.mono ce)⟩
end
end Go.Proofs.YteaeipgfjmnecaaGreatDoor

/- Lemmas; each says its own conditions. -/
import Derived.Test.YteaeipgfjmnecaaGreatDoorK05
open And renaming intro->a7
open Bool renaming and_eq_true->cu,and_false->dJ,eq_iff_iff->e1,false->Q,not_false->lk,not_true->ll,true->S
open Classical renaming byContradiction->mr
open Decidable renaming decide->au
open Go renaming Calls->bB,World->ac,bodyPost_ret->cT,heap_alloc_new->aQ,undef->U,wpOp_step->cB
open Go.Act renaming put->a6
open Go.IntKind renaming i64->b7
open Go.IntWalk renaming i64_in->ca
open Go.IntKind renaming i64->o
open List renaming countP_set->sl,getD_eq_getElem?_getD->cf,getElem?_append_left->hS,getElem?_append_right->kK,getElem?_cons_succ->cO,getElem?_cons_zero->cU,getElem?_eq_getElem->bb,getElem?_eq_none->qk,getElem?_eq_some_iff->bM,getElem?_replicate->wx,getElem?_set_ne->fI,getElem?_set_self->e4,getElem?_toArray->cP,getElem_of_mem->j4,mem_append->js,mem_cons->dC,pairwise_cons->j8,pairwise_iff_getElem->qo,replicate->f0,setIfInBounds_toArray->bd,set_cons_succ->ba,set_cons_zero->bc
open Ne renaming symm->gp
open Go.Obj renaming cells->Y
open Option renaming none->F,some->D
open Option.some renaming inj->cn,injEq->mA
open Go.Proofs.Tryz renaming prog->aj
open Go.Value renaming agg->aq,bool->aa,int->B,pointer->ad,slice->O
namespace Go.Proofs.YteaeipgfjmnecaaGreatDoor
set_option linter.unusedSimpArgs false
set_option linter.unusedVariables false
set_option maxHeartbeats 12800000
section
section
open Go.RowKit
abbrev bt:=Int×Int
def h2(t:ah)(i:Nat):bt:=match i with
 | 0=>(2*t.1+1,2*t.2.1+1)
 | 1=>(bY t.1 t.2.2,bZ t.2.1 t.2.2)
 | _=>(bY t.1 (t.2.2+1),bZ t.2.1 (t.2.2+1))
def ii(a b:bt):Prop:=a.1 < b.1∨a.1=b.1/\a.2 < b.2
instance (a b:bt):Decidable (ii a b):=inferInstanceAs (Decidable (a.1 < b.1∨a.1=b.1/\a.2 < b.2))
theorem Ao{a b c:bt}(h:ii a b)(g:ii b c):ii a c:=by unfold ii at*;omega
theorem Aq(a b:bt):ii a b∨a=b∨ii b a:=by
 obtain⟨ao,a2⟩:=a;obtain⟨b1,aC⟩:=b;simp only[ii,Prod.mk.injEq];omega
def qQ(l:List ah):List bt:=l.flatMap fun t=> [h2 t 0,h2 t 1,h2 t 2]
theorem xT{l:List ah}{p:bt}:p ∈ qQ l↔∃t ∈ l,∃i,i < 3/\h2 t i=p:=by
 unfold qQ;simp only[List.mem_flatMap,dC,List.not_mem_nil,or_false];constructor
 ·rintro⟨t,ht,rfl | rfl | rfl⟩
  ·exact⟨t,ht,0,by omega,rfl⟩
  ·exact⟨t,ht,1,by omega,rfl⟩
  ·exact⟨t,ht,2,by omega,rfl⟩
 rintro⟨t,ht,i,al,rfl⟩;refine⟨t,ht, ?_⟩;rcases e7 al with rfl | rfl | rfl <;> simp
def kN(l:List ah)(i k:Nat)(p:bt):Prop:=∃j t m,l[j]? =D t/\m < 3/\(j < i∨j=i/\m < k)/\h2 t m=p
theorem kN.step{l:List ah}{i k:Nat}{t:ah}(ht:l[i]? =D t)(L:k < 3)(p:bt):kN l i (k+1) p↔kN l i k p∨p=h2 t k:=by
 constructor
 ·rintro⟨j,u,m,h1,ab,ag,az⟩
  by_cases h:j < i∨j=i/\m < k
  ·exact .inl ⟨j,u,m,h1,ab,h,az⟩
  obtain⟨rfl,rfl⟩:j=i/\m=k:=by omega
  rw[ht] at h1;cases h1
  exact .inr az.symm
 rintro(⟨j,u,m,h1,ab,ag,az⟩ | rfl);·exact⟨j,u,m,h1,ab,by omega,az⟩
 ·exact⟨i,t,k,ht,L,by omega,rfl⟩
theorem kN.row{l:List ah}{i:Nat}(p:bt):kN l i 3 p↔kN l (i+1) 0 p:=by
 constructor
 ·rintro⟨j,u,m,h1,ab,ag,az⟩
  exact⟨j,u,m,h1,ab,by omega,az⟩
 rintro⟨j,u,m,h1,ab,ag,az⟩;exact⟨j,u,m,h1,ab,by omega,az⟩
theorem kN.all{l:List ah}{i:Nat}(al:l.length<=i)(p:bt):kN l i 0 p↔p ∈ qQ l:=by
 rw[xT];constructor
 ·rintro⟨j,u,m,h1,ab,ag,az⟩
  exact⟨u,List.mem_of_getElem? h1,m,ab,az⟩
 rintro⟨u,r,m,ab,az⟩;obtain⟨j,s,e⟩:=j4 r;exact⟨j,u,m,by rw[bb s,e],ab,by omega,az⟩
structure nU(P:bt->Prop)(af:List bt):Prop where
 mg:af.Pairwise ii
 mem:∀p,p ∈ af↔P p
theorem nU.dt{P aY:bt->Prop}{af:List bt}(h:nU P af)(ai:∀p,P p↔aY p):nU aY af:=⟨h.mg,fun p=>(h.mem p).trans (ai p)⟩
structure sy(af:List bt)(c:bt)(a:Nat):Prop where
 le:a<=af.length
 lt:∀j p,j < a->af[j]? =D p->ii p c
 ge:∀p,af[a]? =D p->¬ii p c
theorem sy.new{P:bt->Prop}{af:List bt}{c:bt}{a:Nat}(h:nU P af)(aN:sy af c a)(hn:af[a]? ≠D c):nU (fun p=>P p∨p=c) (af.take a++c::af.drop a):=by
 refine⟨?_,fun p=> ?_⟩
 ·rw[List.pairwise_append]
  refine⟨h.mg.sublist (List.take_sublist _ _), ?_, ?_⟩
  ·rw[j8]
   refine⟨fun x R=> ?_,h.mg.sublist (List.drop_sublist _ _)⟩;obtain⟨j,s,e⟩:=j4 R;simp at s e;have aM:a < af.length:=by omega
   have h0:af[a]? =D af[a]:=bb aM;have h1:=aN.ge _ h0;have ab:ii c af[a]:=by
    rcases Aq af[a] c with ag | ag | ag
    ·exact absurd ag h1
    ·rw[h0,ag] at hn
     exact absurd rfl hn
    ·exact ag
   by_cases bi:j=0
   ·subst bi
    simp at e;rw[<-e];exact ab
   refine Ao ab ?_;rw[<-e];have:=qo.1 h.mg a (a+j) aM (by omega) (by omega);exact this
  intro x R y aW;obtain⟨j,s,e⟩:=j4 R;simp at s e;have bo:ii x c:=aN.lt j x (by omega) (by rw[bb (by omega),e]);rcases dC.1 aW with rfl | aW
  ·exact bo
  obtain⟨m,J,ak⟩:=j4 aW;simp at J ak;have:=qo.1 h.mg j (a+m) (by omega) (by omega) (by omega);rw[e,ak] at this;exact this
 have J:p ∈ af.take a++c::af.drop a↔p ∈ af∨p=c:=by
  rw[js,dC];constructor
  ·rintro(h1 | h1 | h1)
   ·exact .inl (List.mem_of_mem_take h1)
   ·exact .inr h1
   ·exact .inl (List.mem_of_mem_drop h1)
  rintro(h1 | h1)
  ·rw[<-List.take_append_drop a af,js] at h1
   rcases h1 with h1 | h1
   ·exact .inl h1
   ·exact .inr (.inr h1)
  ·exact .inr (.inl h1)
 rw[J,h.mem p]
structure lD(af:List bt)(j:Nat)(q:List bt):Prop where
 len:q.length=af.length+1
 rs:∀i,i<=j->i < af.length->q[i]? =af[i]?
 al:∀i,j < i->i<=af.length->q[i]? =af[i-1]?
theorem lD.start(af:List bt)(c:bt):lD af af.length (af++ [c]):=
 ⟨by simp,fun i _ h=>by rw[hS h],fun i h1 ab=>by omega⟩
theorem lD.step{af:List bt}{j:Nat}{q:List bt}{p:bt}(h:lD af (j+1) q)(s:j+1<=af.length)(aN:q[j]? =D p):lD af j (q.set (j+1) p):=by
 refine⟨by simp[h.len],fun i h1 ab=> ?_,fun i h1 ab=> ?_⟩
 ·rw[fI (by omega)]
  exact h.rs i (by omega) ab
 by_cases e:i=j+1
 ·subst e
  rw[e4 (by rw[h.len];omega),<-aN,h.rs j (by omega) (by omega)];rfl
 rw[fI (by omega)];exact h.al i (by omega) ab
theorem lD.done{af:List bt}{a:Nat}{q:List bt}(h:lD af a q)(a0:a<=af.length)(c:bt):q.set a c=af.take a++c::af.drop a:=by
 apply List.ext_getElem?
 intro i;by_cases e:i=a
 ·subst e
  rw[e4 (by rw[h.len];omega),kK (by simp;omega)];have:i-(af.take i).length=0:=by simp;omega
  rw[this];rfl
 rw[fI (by omega)];by_cases av:i < a
 ·rw[h.rs i (by omega) (by omega),hS (by simp;omega),List.getElem?_take,if_pos av]
 rw[kK (by simp;omega)];have ap:i-(af.take a).length=(i-a-1)+1:=by simp;omega
 rw[ap,cO,List.getElem?_drop];by_cases hh:i<=af.length
 ·rw[h.al i (by omega) hh]
  congr 1
  omega
 ·rw[qk (by rw[h.len];omega),qk (by omega)]
section
variable {E:Type} (n:Nat) (bz:Nat->Nat->Option Nat) (A:Nat->Nat->E->E) (v0:E)
structure qw(M:Nat->E):Prop where
 root:M 0=v0
 iI:∀i k j,i < n->k < 3->bz i k=D j->M j=A i k (M i)
def wG:Prop:=∀P:Nat->Prop,P 0->(∀i k j,i < n->k < 3->P i->bz i k=D j->P j)->∀i,i < n->P i
variable {n bz A v0}
variable (z:E) (G:Nat->E->Prop)
def ks[DecidableEq E](l:List E):Nat:=l.countP fun v=>au (v≠z)
structure iX[DecidableEq E](n:Nat)(bz:Nat->Nat->Option Nat)(A:Nat->Nat->E->E)(v0 z:E)(G:Nat->E->Prop)(l:List E)(q:List Nat)(i k:Nat):Prop where
 len:l.length=n
 root:l[0]? =D v0
 pA:v0≠z
 i5:∀(j:Nat) (v:E),l[j]? =D v->v≠z->G (ks z l) v
 todo:∀j ∈ q,j < n/\l.getD j z≠z
 done:∀(j:Nat) (v:E),l[j]? =D v->v≠z->j ∉ q->∀m u,m < 3->(j≠i∨m < k)->bz j m=D u->l.getD u z=A j m v/\l.getD u z≠z
 i3:∀M,qw n bz A v0 M->∀(j:Nat) (v:E),l[j]? =D v->v≠z->v=M j
variable {z G} {l:List E} {q:List Nat} {i k j:Nat} {v:E}
theorem mR{l:List E}{j:Nat}{v:E}(h:l[j]? =D v):l.getD j z=v:=by simp[h]
theorem uO{l:List E}{j:Nat}(h:j < l.length):l[j]? =D (l.getD j z):=by simp[h]
section
variable [DecidableEq E]
theorem tY{l:List E}{j:Nat}{v:E}(s:l[j]? =D z)(an:v≠z):ks z (l.set j v)=ks z l+1:=by
 unfold ks;have aM:=(bM.1 s).1;rw[sl aM];have e:l[j]=z:=(bM.1 s).2;simp[e,an]
theorem iX.start(hn:0 < n)(an:v0≠z)(aH:G 1 v0):iX n bz A v0 z G ((f0 n z).set 0 v0) [0] n 0:=by
 have h0:∀j v,((f0 n z).set 0 v0)[j]? =D v->v≠z->j=0/\v=v0:=by
  intro j v h aI;by_cases s:j=0
  ·subst s
   rw[e4 (by simpa using hn)] at h;exact⟨rfl,(cn h).symm⟩
  rw[fI (by omega),wx] at h
  split at h
  ·exact absurd (cn h).symm aI
  ·cases h
 have L:ks z ((f0 n z).set 0 v0)=1:=by
  rw[tY (by simp[hn]) an];have:ks z (f0 n z)=0:=by
   unfold ks;rw[List.countP_eq_zero];intro a a0;simp[List.eq_of_mem_replicate a0]
  omega
 refine⟨by simp,e4 (by simpa using hn),an, ?_, ?_, ?_, ?_⟩
 ·intro j v h aI
  rw[L,(h0 j v h aI).2];exact aH
 ·intro j s
  simp at s;subst s;refine⟨hn, ?_⟩;rw[mR (e4 (by simpa using hn))];exact an
 ·intro j v h aI ar
  exact absurd (by simp[(h0 j v h aI).1]) ar
 intro M T j v h aI;obtain⟨rfl,rfl⟩:=h0 j v h aI;exact T.root.symm
theorem iX.same(h:iX n bz A v0 z G l q i k)(al:l[i]? =D v)(hn:bz i k=D j)(aI:A i k v≠z)(s:l[j]? =D (A i k v)):iX n bz A v0 z G l q i (k+1):=by
 refine⟨h.len,h.root,h.pA,h.i5,h.todo, ?_,h.i3⟩;intro aw a8 ax bp ar m u J hc N;by_cases L:aw≠i∨m < k
 ·exact h.done aw a8 ax bp ar m u J L N
 obtain⟨rfl,rfl⟩:aw=i/\m=k:=by omega
 rw[hn] at N;cases N
 rw[al] at ax;cases ax
 rw[mR s];exact⟨rfl,aI⟩
theorem iX.new(h:iX n bz A v0 z G l q i k)(L:k < 3)(al:l[i]? =D v)(aV:v≠z)(hn:bz i k=D j)(aI:A i k v≠z)(s:l[j]? =D z)
  (aP:∀b u,G b u->u≠z->G (b+1) u) (aR:G (ks z l) v->G (ks z l+1) (A i k v)):iX n bz A v0 z G (l.set j (A i k v)) (q++ [j]) i (k+1):=by
 have ay:=(bM.1 s).1;have br:=(bM.1 al).1;have bq:i≠j:=by
  intro e;subst e;rw[al] at s;cases s
  exact aV rfl
 have ae:∀u,l.getD u z≠z->u≠j:=by
  intro u r e;subst e;rw[mR s] at r;exact r rfl
 have aK:∀u,u≠j->(l.set j (A i k v)).getD u z=l.getD u z:=by
  intro u r;rw[cf,fI (gp r),<-cf]
 have a1:(l.set j (A i k v)).getD j z=A i k v:=mR (e4 ay);have bm:0≠j:=by
  intro e;have h1:=h.root;rw[e,s] at h1;exact h.pA (cn h1).symm
 have aU:=tY (v:=A i k v) s aI;refine⟨by simp[h.len],by rw[fI (gp bm)];exact h.root,h.pA, ?_, ?_, ?_, ?_⟩
 ·intro u x r R
  rw[aU];by_cases e:u=j
  ·subst e
   rw[e4 ay] at r;cases r
   exact aR (h.i5 i v al aV)
  rw[fI (gp e)] at r;exact aP _ _ (h.i5 u x r R) R
 ·intro u r
  rcases js.1 r with r | r
  ·obtain⟨h1,ab⟩:=h.todo u r
   exact⟨h1,by rw[aK u (ae u ab)];exact ab⟩
  simp at r;subst r;exact⟨by have:=h.len;omega,by rw[a1];exact aI⟩
 ·intro u x r R ar m y J hc N
  have bn:u≠j:=fun e=>ar (by simp[e]);rw[fI (gp bn)] at r;have bk:u ∉ q:=fun hh=>ar (by simp[hh]);by_cases aJ:u≠i∨m < k
  ·obtain⟨aO,aE⟩:=h.done u x r R bk m y J aJ N
   have:=aK y (ae y aE);rw[this];exact⟨aO,aE⟩
  obtain⟨rfl,rfl⟩:u=i/\m=k:=by omega
  rw[hn] at N;cases N
  rw[al] at r;cases r
  rw[a1];exact⟨rfl,aI⟩
 intro M T u x r R;by_cases e:u=j
 ·subst e
  rw[e4 ay] at r;cases r
  have h1:=h.i3 M T i v al aV;have ab:=T.iI i k u (by have:=h.len;omega) L hn;rw[ab,<-h1]
 rw[fI (gp e)] at r;exact h.i3 M T u x r R
theorem iX.over(h:iX n bz A v0 z G l q i 3):iX n bz A v0 z G l q n 0:=by
 refine⟨h.len,h.root,h.pA,h.i5,h.todo, ?_,h.i3⟩;intro j v s aI ar m u J hc N;exact h.done j v s aI ar m u J (by omega) N
end
def gi(f:List Bool):Nat:=f.countP id
structure gQ(n:Nat)(bz:Nat->Nat->Option Nat)(A:Nat->Nat->E->E)(v0:E)(G:Nat->E->Prop)(K:Nat->Prop)(l:List E)(f:List Bool)(i k:Nat):Prop where
 len:l.length=n
 k8:f.length=n
 nk:l[0]? =D v0
 nj:f[0]? =D S
 i5:∀(j:Nat) (v:E),l[j]? =D v->f[j]? =D S->G (gi f) v
 i3:∀M,qw n bz A v0 M->∀(j:Nat) (v:E),l[j]? =D v->f[j]? =D S->v=M j
 sub:∀j,K j->f[j]? =D S
 done:∀(j:Nat) (v:E),K j->l[j]? =D v->∀m u,m < 3->(j < i∨j=i/\m < k)->bz j m=D u->l[u]? =D (A j m v)/\f[u]? =D S
variable {f:List Bool} {K:Nat->Prop}
theorem gQ.start(hn:0 < n)(aH:G 1 v0)(z:E):gQ n bz A v0 G (fun j=>j=0) ((f0 n z).set 0 v0) ((f0 n Q).set 0 S) 0 0:=by
 have h0:∀j,((f0 n Q).set 0 S)[j]? =D S->j=0:=by
  intro j h;by_cases s:j=0
  ·exact s
  rw[fI (by omega),wx] at h
  split at h
  ·cases h
  ·cases h
 have L:gi ((f0 n Q).set 0 S)=1:=by
  unfold gi;rw[sl (by simpa using hn)];simp[List.countP_replicate]
 have an:((f0 n z).set 0 v0)[0]? =D v0:=e4 (by simpa using hn);refine⟨by simp,by simp,an,e4 (by simpa using hn), ?_, ?_, ?_, ?_⟩
 ·intro j v s hf
  obtain rfl:=h0 j hf;rw[an] at s;cases s
  rw[L];exact aH
 ·intro M T j v s hf
  obtain rfl:=h0 j hf;rw[an] at s;cases s
  exact T.root.symm
 ·rintro j rfl
  exact e4 (by simpa using hn)
 intro j v V s m u J hc;omega
theorem gQ.skip(h:gQ n bz A v0 G K l f i k)(hf:f[i]? =D Q):gQ n bz A v0 G K l f (i+1) 0:=by
 refine⟨h.len,h.k8,h.nk,h.nj,h.i5,h.i3,h.sub, ?_⟩;intro j v V s m u J hc hn;by_cases e:j=i
 ·subst e
  have:=h.sub j V;rw[hf] at this;cases this
 ·exact h.done j v V s m u J (by omega) hn
theorem gQ.row(h:gQ n bz A v0 G K l f i 3):gQ n bz A v0 G K l f (i+1) 0:=by
 refine⟨h.len,h.k8,h.nk,h.nj,h.i5,h.i3,h.sub, ?_⟩;intro j v V s m u J hc hn;exact h.done j v V s m u J (by omega) hn
theorem vz{bf:Type}{l:List bf}{j:Nat}{x:bf}(h:l[j]? =D x):l.set j x=l:=by
 apply List.ext_getElem?
 intro i;by_cases e:i=j
 ·subst e
  rw[e4 (bM.1 h).1,h]
 ·rw[fI (gp e)]
theorem gQ.put(h:gQ n bz A v0 G K l f i k)(L:k < 3)(al:l[i]? =D v)(a3:f[i]? =D S)(hn:bz i k=D j)(a4:j < n)(a9:f[j]? =D S->l[j]? =D (A i k v))
  (aP:∀b u,G b u->G (b+1) u) (aR:G (gi f) v->G (gi f+1) (A i k v)):gQ n bz A v0 G K (l.set j (A i k v)) (f.set j S) i (k+1):=by
 have ay:j < l.length:=by rw[h.len];exact a4
 have aL:j < f.length:=by rw[h.k8];exact a4
 cases aS:f[j] with
 | true=>
  have aD:f[j]? =D S:=by rw[bb aL,aS]
  rw[vz aD,vz (a9 aD)];refine⟨h.len,h.k8,h.nk,h.nj,h.i5,h.i3,h.sub, ?_⟩;intro aw a8 V ax m u J hc N;by_cases aJ:aw < i∨aw=i/\m < k
  ·exact h.done aw a8 V ax m u J aJ N
  obtain⟨rfl,rfl⟩:aw=i/\m=k:=by omega
  rw[hn] at N;cases N
  rw[al] at ax;cases ax
  exact⟨a9 aD,aD⟩
 | false=>
  have aD:f[j]? =D Q:=by rw[bb aL,aS]
  have ae:∀u:Nat,f[u]? =D S->u≠j:=by
   intro u r e;subst e;rw[aD] at r;cases r
  have aU:gi (f.set j S)=gi f+1:=by
   unfold gi;rw[sl aL];simp[aS]
  have bs:∀u:Nat,(f.set j S)[u]? =D S->u=j∨f[u]? =D S:=by
   intro u r;by_cases e:u=j
   ·exact .inl e
   rw[fI (gp e)] at r;exact .inr r
  have aT:∀u:Nat,f[u]? =D S->(f.set j S)[u]? =D S:=by
   intro u r;rw[fI (gp (ae u r))];exact r
  have aK:∀(u:Nat) (x:E),f[u]? =D S->l[u]? =D x->(l.set j (A i k v))[u]? =D x:=by
   intro u x r R;rw[fI (gp (ae u r))];exact R
  refine⟨by simp[h.len],by simp[h.k8],aK 0 _ h.nj h.nk,aT 0 h.nj, ?_, ?_,fun u r=>aT u (h.sub u r), ?_⟩
  ·intro u x r aF
   rw[aU];by_cases e:u=j
   ·subst e
    rw[e4 ay] at r;cases r
    exact aR (h.i5 i v al a3)
   rw[fI (gp e)] at r aF;exact aP _ _ (h.i5 u x r aF)
  ·intro M T u x r aF
   by_cases e:u=j
   ·subst e
    rw[e4 ay] at r;cases r
    rw[T.iI i k u (by have:=(bM.1 al).1;have:=h.len;omega) L hn,<-h.i3 M T i v al a3]
   rw[fI (gp e)] at r aF;exact h.i3 M T u x r aF
  intro u x V r m y J hc N;rw[fI (gp (ae u (h.sub u V)))] at r;by_cases aJ:u < i∨u=i/\m < k
  ·obtain⟨aO,aE⟩:=h.done u x V r m y J aJ N
   exact⟨aK y _ aE aO,aT y aE⟩
  obtain⟨rfl,rfl⟩:u=i/\m=k:=by omega
  rw[hn] at N;cases N
  rw[al] at r;cases r
  exact⟨e4 ay,e4 aL⟩
theorem Db:∀{f g:List Bool},f.length=g.length->(∀j:Nat,f[j]? =D S->g[j]? =D S)->gi f<=gi g:=by
 intro f
 induction f with
 | nil=>intro g _ _;simp[gi]
 | cons a f aX=>
  intro g av ai
  cases g with
  | nil=>simp at av
  | cons b g=>
   have h1:=aX (g:=g) (by simpa using av) fun j s=>by simpa using ai (j+1) (by simpa using s)
   have ab:=ai 0;simp only[cU,mA] at ab;unfold gi at*;simp only[List.countP_cons,id];cases a <;> cases b <;> simp_all
   omega
theorem Da:∀{f g:List Bool},f.length=g.length->(∀j:Nat,f[j]? =D S->g[j]? =D S)->(∃j:Nat,f[j]? =D Q/\g[j]? =D S)->gi f < gi g:=by
 intro f
 induction f with
 | nil=>rintro g _ _ ⟨j,h,_⟩;simp at h
 | cons a f aX=>
  intro g av ai bh
  cases g with
  | nil=>simp at av
  | cons b g=>
   have be:∀j:Nat,f[j]? =D S->g[j]? =D S:=fun j s=>by simpa using ai (j+1) (by simpa using s)
   have a5:f.length=g.length:=by simpa using av
   have h1:=Db a5 be;have ab:=ai 0;simp only[cU,mA] at ab;obtain⟨j,ap,ak⟩:=bh
   cases j with
   | zero=>
    simp at ap ak;subst ap ak;unfold gi at*;simp;omega
   | succ j=>
    have ag:=aX a5 be ⟨j,by simpa using ap,by simpa using ak⟩;unfold gi at*;simp only[List.countP_cons,id];cases a <;> cases b <;> simp_all
    omega
theorem gQ.over{aA:List Bool}(h:gQ n bz A v0 G (fun j=>aA[j]? =D S) l f n 0)(h0:aA.length=n)(bl:aA[0]? =D S)(hc:wG n bz):
  gi aA < gi f∨((∀i,i < n->f[i]? =D S)/\∀z,qw n bz A v0 (fun i=>l.getD i z)):=by
 by_cases hall:∀i,i < n->aA[i]? =D S
 ·right
  refine⟨fun i al=>h.sub i (hall i al),fun z=>⟨mR h.nk, ?_⟩⟩;intro i k j al L s;have av:i < l.length:=by rw[h.len];exact al
  exact mR (h.done i _ (hall i al) (uO av) k j L (.inl al) s).1
 left
 refine Da (by rw[h0,h.k8]) (fun j s=>h.sub j s) ?_;apply mr
 intro bj;apply hall
 refine hc _ bl ?_;intro i k j al L ai s;have av:i < l.length:=by rw[h.len];exact al
 have ab:=(h.done i _ ai (uO (z:=v0) av) k j L (.inl al) s).2
 cases hf:aA[j]? with
 | none=>
  have ag:=(bM.1 ab).1;rw[List.getElem?_eq_none_iff] at hf;have:=h.k8;omega
 | some b=>
  cases b with
  | true=>rfl
  | false=>exact absurd ⟨j,hf,ab⟩ bj
theorem gQ.next(h:gQ n bz A v0 G K l f n 0):gQ n bz A v0 G (fun j=>f[j]? =D S) l f 0 0:=
 ⟨h.len,h.k8,h.nk,h.nj,h.i5,h.i3,fun _ s=>s,fun j v _ _ m u _ hc=>by omega⟩
end
end
section
open Go.RowKit
def iY(w:ac)(I:Nat)(t:ah):Prop:=w.heap[I]? =D (Y #[B o (h2 t 0).1, B o (h2 t 0).2, B o (h2 t 1).1, B o (h2 t 1).2, B o (h2 t 2).1, B o (h2 t 2).2] 40 (0,0))
theorem iY.at_{w:ac}{I k:Nat}{t:ah}(h:iY w I t)(L:k < 3):w.cell? ⟨I,k*2,F⟩=D (B o (h2 t k).1)/\w.cell? ⟨I,k*2+1,F⟩=D (B o (h2 t k).2):=by
 have aZ:w.heap[I]? =_:=h;rcases e7 L with rfl | rfl | rfl <;> exact⟨(aB aZ _).trans rfl,(aB aZ _).trans rfl⟩
theorem iY.below{w Z:ac}{I:Nat}{t:ah}(h:iY w I t)(bg:Below w.heap.size w Z):iY Z I t:=aG h bg (am h)
theorem iY.set{w:ac}{I g j:Nat}{t:ah}{v:Value}(h:iY w I t)(ae:I≠g):iY (w.setCell ⟨g,j,F⟩ v) I t:=eV (p:=⟨g,j,F⟩) h ae v
theorem iY.grow{w Z:ac}{I:Nat}{t:ah}{v a8:Value}(h:iY w I t)(aH:fm w Z v a8)(ae:v.ownBlock≠D I):iY Z I t:=(aH.grown.block I (am h) (fun e=>ae e.symm)).trans h
end
end
section
set_option maxRecDepth 100000
open Go.RowKit Go.Maps
theorem A3(W H:Int)(Am Ac:Option Addr)(nm cm nc cc:Nat)(mask:List Int)(cs:List bw)(w:ac)(cI:Steps w)(cE:Rd w 1 Am nm (bF mask))(hc:Rd w 5 Ac nc (cr cs))(hnm:nm<=140737488351232)(hnc:nc<=140737488351232):
    bB aj 43 #[aq #[B o W, B o H, O Am nm cm, O Ac nc cc]] w fun e Z=>Below w.heap.size w Z/\
      ((fu W H mask cs=Q/\∃v,e= .returned (.tuple #[v, aa Q]))∨
       (fu W H mask cs=S/\∃s M aA b0 bz bg dc bJ,W=((s:Nat):Int)/\H=((M:Nat):Int)/\(1<=s/\s<=8)/\(1<=M/\M<=8)/\mask.length=s*M/\e= .returned (.tuple #[ad (D ⟨aA,0,F⟩), aa S])/\kg w b0 aA bz bg s M (O Am nm cm) (O Ac nc cc) bJ (bG s mask) dc cs cs.length Z)):=by
  have bA:=aQ w (Y #[B o W, B o H, O Am nm cm, O Ac nc cc] 25);have bV:=aV w (Y #[B o W, B o H, O Am nm cm, O Ac nc cc] 25);obtain⟨c5,ap,ak,cv⟩:=dm bA;have ct:=zV Am nm cm (O Ac nc cc) W H mask _ (cE.alloc (Y #[B o W, B o H, O Am nm cm, O Ac nc cc] 25)) hnm;obtain⟨a8,bT⟩:=ai (fu W H mask cs);rw[<-bT];obtain⟨bH,du,bE,cW⟩:=df bT cI hc ct;clear ct bT cI hc cE;go_in;go_upto_region 1 with fail
  go_wp2_with (go_at_call 86;refine cW.out.mono ?_;rintro r dj ⟨bu,de⟩;have dq:=V cv bu;rcases de with ⟨a0,rfl⟩ | ⟨a0,rfl,s,M,m,bJ,rfl,rfl,hW,bQ,cF,a9⟩)
  · have cx:a8=Q:=by rw[bH.out];unfold fu;rw[a0];rfl
    have c0:=R cx;clear a0 cx;have c7:=ax bV bu;go_wp2
    go_ret2
    exact⟨c7, .inl ⟨c0.out,_,rfl⟩⟩
  have aI:(w.alloc (Y #[B o (s:Int), B o (M:Int), O Am nm cm, O Ac nc cc] 25)).heap.size=w.heap.size+1:=by simp
  have bu:=ax bV a9.bel;have bt:kg w w.heap.size (w.heap.size+1+1+1+1) (w.heap.size+1+1) (w.heap.size+1+1+1) s M (O Am nm cm) (O Ac nc cc) bJ (bG s mask) m cs 0 dj:=by
    have cG:=a9.cj;rw[aI] at cG;exact⟨cG,dn a9.own (by rw[aI];omega),bu,aG bA a9.bel (am bA),by omega,by omega⟩
  have c9:=bt.box;have da:=bE.out.mN;have b2:a8=(eQ (bG s mask) F cs && gc (bG s mask)):=by rw[bH.out];unfold fu;rw[a0];rfl
  have b6:∀t ∈ bG s mask,0<=t.1/\t.1 < s/\0<=t.2.1/\t.2.1 < M/\dN t:=fun t ht=>lg (by omega) cF ht;have cJ:=pF (show 0 < s by omega) mask mask.length;have bZ:(bG s mask).length<=1000:=by
    have:=pH s mask mask.length 0;rw[List.length_append] at this;have ab:s*M<=8*8:=Nat.mul_le_mul hW.2 bQ.2;have ag:bG s mask=eb s mask mask.length:=rfl;rw[ag];omega
  have b5:(bG s mask).Pairwise c3:=cJ;obtain⟨L,bS⟩:=ai (bG s mask);rw[<-bS] at bt b2 b6 bZ b5;obtain⟨cl,c2,bI,cZ,c4,dl,cY⟩:=kp b2 bt b6 bZ b5 a0 bS;clear b2 bt b6 bZ cJ b5 a0 a9 c9 bH bS bA bV c5 ap ak cv aI;go_loopw [18] (fun x wr=>∃i:Nat,i<=nc/\x= B o i/\Hid (eQ L F (cs.take i)=S)/\Hid (kg w w.heap.size (w.heap.size+1+1+1+1) (w.heap.size+1+1) (w.heap.size+1+1+1) s M (O Am nm cm) (O Ac nc cc) bJ L m cs i wr)) (fun x _=>nc-(intOf x).toNat)
  case atStart=>exact⟨0,by omega,rfl,R rfl,c2⟩
  obtain⟨i,al,rfl,cA,aN⟩:=hrel;by_cases dv:i < nc
  · obtain⟨c,be⟩:∃c,cs[i]? =D c:=⟨_,bb (by omega)⟩
    obtain⟨P,T,hA,dr,_⟩:=bE.out.2 (by omega);subst hA;have bP:=bE.out.below aN.out.bel;obtain⟨cL,cM,cN,cQ,cR⟩:=bP.lK be;have br:=R be;have cC:=fun h=>te (l:=L) be h;have dH:=fun h=>tf (l:=L) be cA.out h;obtain⟨ay,an⟩:=aY cC dH;have dt:(i:Int) < 140737488351232:=by omega
    have db:(i:Int) < (nc:Int):=by omega
    clear be cC dH;obtain⟨e,cK⟩:=c;simp only at cL cM cN cQ cR;have b4:∀j,i=j+1->∃cb,cs[j]? =D cb:=fun j bx=>⟨_,bb (by omega)⟩
    go_wp2_with fail
    have b9:=aQ wr (Y #[B o e.1, B o e.2.1, B o e.2.2.1, B o e.2.2.2, B o cK] 129);have aO:=aN.out.below (aV wr (Y #[B o e.1, B o e.2.1, B o e.2.2.1, B o e.2.2.2, B o cK] 129));have bO:=bP.alloc (Y #[B o e.1, B o e.2.1, B o e.2.2.1, B o e.2.2.2, B o cK] 129);have c8:Below wr.heap.size wr (wr.alloc (Y #[B o e.1, B o e.2.1, B o e.2.2.1, B o e.2.2.2, B o cK] 129)):=aV wr (Y #[B o e.1, B o e.2.1, B o e.2.2.1, B o e.2.2.2, B o cK] 129);clear cL cM cN cQ cR bP;generalize wr.alloc (Y #[B o e.1, B o e.2.1, B o e.2.2.1, B o e.2.2.2, B o cK] 129)=w2 at b9 aO bO c8 |-;obtain⟨aF,aH,aJ,aK,aL⟩:=mI b9;have aM:=aB aO.box 3
    simp only[cP,cU,cO] at aM;have ep:=fun(bC:ac) (cz:Below w2.heap.size w2 bC)=>zf (w.heap.size+1+1+1+1) (w.heap.size+1+1) (w.heap.size+1+1+1) s M (O Am nm cm) (O (D ⟨P,T,F⟩) nc cc) bJ L m i (fY (cs.take i)) e bC (du.out.below (aO.bel.trans (cz.mono aO.bel.size))) (aO.cj.below cz) hW.2 bQ.2 bI.out;obtain⟨G,bR⟩:=ai (gC L e);rw[<-bR] at ep;obtain⟨bq,ae,E,cX⟩:=df ep bR aO bO;have bi:∀t ∈ L,gw t:=fun t ht=>by have:=bI.out t ht;exact⟨by omega,by omega,this.2.2.2.2⟩
    have bs:=R bi;clear ep bR b9 aO bO aN bi;have a1:eQ L F cs=Q->a8=Q:=fun h=>by rw[cl.out,h];rfl
    have aC:=R a1;clear a1;by_cases bv:i=0
    · have dg:au (0 < i)=Q:=decide_eq_false (by omega)
      have dh:au ((0:Int) < (i:Int))=Q:=decide_eq_false (by omega);have bh:kC (dV cs i) e=S:=by unfold dV;rw[if_pos bv];rfl
      have a5:=R bh;clear bh bv b4;by_cases ar:cK=1
      · subst ar
        have bf:((1:Int) !=1)=Q:=by decide
        refine bW (fin:= ?z1) [B o i, aa Q, aa Q,U,U,U,U,U,U,U,U,U,U,U, aa Q, aa Q, ad (D ⟨wr.heap.size,4,F⟩), B o 1, aa Q, aa Q,U,U,U, aa Q, aa Q, aa Q, ad (D ⟨w.heap.size+1+1+1+1,0,F⟩), ad (D ⟨wr.heap.size,0,F⟩), aq #[B o e.1, B o e.2.1, B o e.2.2.1, B o e.2.2.2], aa G, aa (!G), aa (!G)] ?hf bp (by kernel_rfl) rfl fun ao a=> ?_;case hf=>simp only[aT,a6,bd,ba,bc];exact rfl
        have aE:=R a;obtain⟨q0,aZ,bm,a2,a3,a4⟩:=jf a aM aF aH aJ aK aL;constructor
        ·iterate 32 refine⟨?_,fun K z=> ?_⟩
         · trivial
         all_goals try (go_simp;exact z _ aE.out;done)
         go_simp;exact aw (bq.out _ a) fun wc J=>z _ (ax a J)
        cases G with
        | false=>
          simp only[lk];have b:et L (dV cs i) (e,1)=Q:=by rw[fq];simp only;rw[<-ae.out,dJ]
          have y:=R b;clear b;have A:=E.out.bel.trans (a.mono E.out.bel.size);have N:=R A;clear A;go_wp2
          go_ret2
          exact⟨N.out, .inl ⟨aC.out (ay.out y.out),_,rfl⟩⟩
        | true=>
          simp only[ll];have b:et L (dV cs i) (e,1)=S:=by rw[fq];simp only;rw[<-ae.out,a5.out];decide
          have y:=R b;have I:=E.out.below a;have bD:=I.cj.dk;have ah:=pe bs.out ae.out.symm;obtain⟨aD,af⟩:=aY ah I;clear b ah I
          go_wp2_with fail
          go_still_tail 8,(by kernel_rfl)
          change wpList _ _ _ _ _ ao.drew
          go_wp2_with (at_mapUpdate;go_loud (refine mn (k:=e8) rfl _ _ _ rfl af.out.cj.d9.drew rfl (by unfold maxLen;omega) e aD.out 1 rfl rfl (by decide) ?_);intro ci aW aR)
          have az:=R ((af.out.below aX.drew).put br.out aR aW);go_roundw
          case rel=>exact⟨i+1,by omega,by go_num,R (an.out y.out),az⟩
          case measure=>simp[intOf];omega
      by_cases aU:cK=2
      · subst aU
        have bf:((2:Int) !=1)=S:=by decide
        have bX:((2:Int) !=2)=Q:=by decide
        clear ar;refine bW (fin:= ?z2) [B o i, aa Q, aa Q,U,U,U,U,U,U,U,U,U,U,U, aa Q, aa Q, ad (D ⟨wr.heap.size,4,F⟩), B o 2, aa S, aa S, ad (D ⟨wr.heap.size,4,F⟩), B o 2, aa Q, aa Q, aa Q, aa Q, ad (D ⟨w.heap.size+1+1+1+1,0,F⟩), ad (D ⟨wr.heap.size,0,F⟩), aq #[B o e.1, B o e.2.1, B o e.2.2.1, B o e.2.2.2], aa G, aa (!G), aa (!G)] ?hf bp (by kernel_rfl) rfl fun ao a=> ?_;case hf=>simp only[aT,a6,bd,ba,bc];exact rfl
        have aE:=R a;obtain⟨q0,aZ,bm,a2,a3,a4⟩:=jf a aM aF aH aJ aK aL;constructor
        ·iterate 32 refine⟨?_,fun K z=> ?_⟩
         · trivial
         all_goals try (go_simp;exact z _ aE.out;done)
         go_simp;exact aw (bq.out _ a) fun wc J=>z _ (ax a J)
        cases G with
        | false=>
          simp only[lk];have b:et L (dV cs i) (e,2)=Q:=by rw[fq];simp only;rw[<-ae.out,dJ]
          have y:=R b;clear b;have A:=E.out.bel.trans (a.mono E.out.bel.size);have N:=R A;clear A;go_wp2
          go_ret2
          exact⟨N.out, .inl ⟨aC.out (ay.out y.out),_,rfl⟩⟩
        | true=>
          simp only[ll];have b:et L (dV cs i) (e,2)=S:=by rw[fq];simp only;rw[<-ae.out,a5.out];decide
          have y:=R b;have I:=E.out.below a;have bD:=I.cj.dk;have ah:=pe bs.out ae.out.symm;obtain⟨aD,af⟩:=aY ah I;clear b ah I
          go_wp2_with fail
          go_still_tail 8,(by kernel_rfl)
          change wpList _ _ _ _ _ ao.drew
          go_wp2_with (at_mapUpdate;go_loud (refine mn (k:=e8) rfl _ _ _ rfl af.out.cj.d9.drew rfl (by unfold maxLen;omega) e aD.out 2 rfl rfl (by decide) ?_);intro ci aW aR)
          have az:=R ((af.out.below aX.drew).put br.out aR aW);go_roundw
          case rel=>exact⟨i+1,by omega,by go_num,R (an.out y.out),az⟩
          case measure=>simp[intOf];omega
      have bf:(cK !=1)=S:=by simpa using ar
      have bX:(cK !=2)=S:=by simpa using aU
      have b:et L (dV cs i) (e,cK)=Q:=by rw[fq,decide_eq_false (show ¬(cK=1∨cK=2) by omega)];simp
      have y:=R b;clear b ar aU;refine bW (fin:= ?z3) [B o i, aa Q, aa Q,U,U,U,U,U,U,U,U,U,U,U, aa Q, aa Q, ad (D ⟨wr.heap.size,4,F⟩), B o cK, aa S, aa S, ad (D ⟨wr.heap.size,4,F⟩), B o cK, aa S, aa S, aa S, aa S,U,U,U,U,U, aa S] ?hf bp (by kernel_rfl) rfl fun ao a=> ?_;case hf=>simp only[aT,a6,bd,ba,bc];exact rfl
      have an:=R a;obtain⟨q0,aZ,bm,a2,a3,a4⟩:=jf a aM aF aH aJ aK aL;constructor
      ·iterate 32 refine⟨?_,fun K z=> ?_⟩
       · trivial
       all_goals try (go_simp;exact z _ an.out;done)
      have A:=E.out.bel.trans (a.mono E.out.bel.size);have N:=R A;clear A;go_wp2
      go_ret2
      exact⟨N.out, .inl ⟨aC.out (ay.out y.out),_,rfl⟩⟩
    obtain⟨j,bx⟩:∃j,i=j+1:=⟨i-1,by omega⟩;obtain⟨cb,b3⟩:=b4 j bx;obtain⟨g,di⟩:=cb;have dg:au (0 < i)=S:=decide_eq_true (by omega);have dh:au ((0:Int) < (i:Int))=S:=decide_eq_true (by omega);have dz:b7.wrap ((i:Int)-1)=(j:Int):=by rw[ca _ (by omega)];omega
    have dx:j < nc:=by omega
    have dy:(j:Int) < (nc:Int):=by omega
    have dw:(0:Int)<=(j:Int):=by omega
    have cH:dV cs i=D (g,di):=by unfold dV;rw[if_neg bv,bx,Nat.add_sub_cancel];exact b3
    obtain⟨bj,bk,bl,bn,_⟩:=cX.out.lK b3;simp only at bj bk bl bn;have bK:=fun(bC:ac)=>sV g.1 g.2.1 g.2.2.1 g.2.2.2 e.1 e.2.1 e.2.2.1 e.2.2.2 bC;obtain⟨av,bU⟩:=ai (f9 g e);have cy:f9 (g.1,g.2.1,g.2.2.1,g.2.2.2) (e.1,e.2.1,e.2.2.1,e.2.2.2)=av:=bU.symm;rw[cy] at bK;have bY:=xE g e;rw[<-bU] at bY;obtain⟨bo,ck,co⟩:=cq bK bY cH;clear bK bU cy bY cH bx bv b3 b4;by_cases aI:0<=av
    · have b8:au (0<=av)=S:=decide_eq_true aI
      have b:et L (dV cs i) (e,cK)=Q:=by rw[fq,co.out];have:=ck.out;rw[b8] at this;simp at this;simp[kC,this]
      have y:=R b;clear b;refine bW (fin:= ?z4) [B o i, aa S, aa S, ad (D ⟨w.heap.size,3,F⟩), O (D ⟨P,T,F⟩) nc cc, B o i, B o j, ad (D ⟨P,T+j*5,F⟩), ad (D ⟨P,T+j*5,F⟩), aq #[B o g.1, B o g.2.1, B o g.2.2.1, B o g.2.2.2], ad (D ⟨wr.heap.size,0,F⟩), aq #[B o e.1, B o e.2.1, B o e.2.2.1, B o e.2.2.2], B o av, aa S, aa S, aa S,U,U,U,U,U,U,U,U, aa S, aa S,U,U,U,U,U, aa S] ?hf bp (by kernel_rfl) rfl fun ao a=> ?_;case hf=>simp only[aT,a6,bd,ba,bc];exact rfl
      have an:=R a;obtain⟨q0,aZ,bm,a2,a3,a4,cd,ce,cg,ch⟩:=la a aM aF aH aJ aK aL bj bk bl bn;constructor
      ·iterate 32 refine⟨?_,fun K z=> ?_⟩
       · trivial
       all_goals try (go_simp;exact z _ an.out;done)
       go_simp;refine(bo.out _).mono ?_;rintro bN wc ⟨aP,aS⟩;have J:=aS.below;subst aP;exact z _ (ax a J)
      have A:=E.out.bel.trans (a.mono E.out.bel.size);have N:=R A;clear A;go_wp2
      go_ret2
      exact⟨N.out, .inl ⟨aC.out (ay.out y.out),_,rfl⟩⟩
    have b8:au (0<=av)=Q:=decide_eq_false aI;have bh:kC (dV cs i) e=S:=by rw[co.out];have:=ck.out;rw[b8] at this;simp at this;simp[kC,this]
    have a5:=R bh;clear bh aI;by_cases ar:cK=1
    · subst ar
      have bf:((1:Int) !=1)=Q:=by decide
      refine bW (fin:= ?z5) [B o i, aa S, aa S, ad (D ⟨w.heap.size,3,F⟩), O (D ⟨P,T,F⟩) nc cc, B o i, B o j, ad (D ⟨P,T+j*5,F⟩), ad (D ⟨P,T+j*5,F⟩), aq #[B o g.1, B o g.2.1, B o g.2.2.1, B o g.2.2.2], ad (D ⟨wr.heap.size,0,F⟩), aq #[B o e.1, B o e.2.1, B o e.2.2.1, B o e.2.2.2], B o av, aa Q, aa Q, aa Q, ad (D ⟨wr.heap.size,4,F⟩), B o 1, aa Q, aa Q,U,U,U, aa Q, aa Q, aa Q, ad (D ⟨w.heap.size+1+1+1+1,0,F⟩), ad (D ⟨wr.heap.size,0,F⟩), aq #[B o e.1, B o e.2.1, B o e.2.2.1, B o e.2.2.2], aa G, aa (!G), aa (!G)] ?hf bp (by kernel_rfl) rfl fun ao a=> ?_
      case hf=>simp only[aT,a6,bd,ba,bc];exact rfl
      have aE:=R a;obtain⟨q0,aZ,bm,a2,a3,a4,cd,ce,cg,ch⟩:=la a aM aF aH aJ aK aL bj bk bl bn;constructor
      ·iterate 32 refine⟨?_,fun K z=> ?_⟩
       · trivial
       all_goals try (go_simp;exact z _ aE.out;done)
       · go_simp
         exact aw (bq.out _ a) fun wc J=>z _ (ax a J)
       go_simp;refine(bo.out _).mono ?_;rintro bN wc ⟨aP,aS⟩;have J:=aS.below;subst aP;exact z _ (ax a J)
      cases G with
      | false=>
        simp only[lk];have b:et L (dV cs i) (e,1)=Q:=by rw[fq];simp only;rw[<-ae.out,dJ]
        have y:=R b;clear b;have A:=E.out.bel.trans (a.mono E.out.bel.size);have N:=R A;clear A;go_wp2
        go_ret2
        exact⟨N.out, .inl ⟨aC.out (ay.out y.out),_,rfl⟩⟩
      | true=>
        simp only[ll];have b:et L (dV cs i) (e,1)=S:=by rw[fq];simp only;rw[<-ae.out,a5.out];decide
        have y:=R b;have I:=E.out.below a;have bD:=I.cj.dk;have ah:=pe bs.out ae.out.symm;obtain⟨aD,af⟩:=aY ah I;clear b ah I
        go_wp2_with fail
        go_still_tail 8,(by kernel_rfl)
        change wpList _ _ _ _ _ ao.drew
        go_wp2_with (at_mapUpdate;go_loud (refine mn (k:=e8) rfl _ _ _ rfl af.out.cj.d9.drew rfl (by unfold maxLen;omega) e aD.out 1 rfl rfl (by decide) ?_);intro ci aW aR)
        have az:=R ((af.out.below aX.drew).put br.out aR aW);go_roundw
        case rel=>exact⟨i+1,by omega,by go_num,R (an.out y.out),az⟩
        case measure=>simp[intOf];omega
    by_cases aU:cK=2
    · subst aU
      have bf:((2:Int) !=1)=S:=by decide
      have bX:((2:Int) !=2)=Q:=by decide
      clear ar;refine bW (fin:= ?bD) [B o i, aa S, aa S, ad (D ⟨w.heap.size,3,F⟩), O (D ⟨P,T,F⟩) nc cc, B o i, B o j, ad (D ⟨P,T+j*5,F⟩), ad (D ⟨P,T+j*5,F⟩), aq #[B o g.1, B o g.2.1, B o g.2.2.1, B o g.2.2.2], ad (D ⟨wr.heap.size,0,F⟩), aq #[B o e.1, B o e.2.1, B o e.2.2.1, B o e.2.2.2], B o av, aa Q, aa Q, aa Q, ad (D ⟨wr.heap.size,4,F⟩), B o 2, aa S, aa S, ad (D ⟨wr.heap.size,4,F⟩), B o 2, aa Q, aa Q, aa Q, aa Q, ad (D ⟨w.heap.size+1+1+1+1,0,F⟩), ad (D ⟨wr.heap.size,0,F⟩), aq #[B o e.1, B o e.2.1, B o e.2.2.1, B o e.2.2.2], aa G, aa (!G), aa (!G)] ?hf bp (by kernel_rfl) rfl fun ao a=> ?_
      case hf=>simp only[aT,a6,bd,ba,bc];exact rfl
      have aE:=R a;obtain⟨q0,aZ,bm,a2,a3,a4,cd,ce,cg,ch⟩:=la a aM aF aH aJ aK aL bj bk bl bn;constructor
      ·iterate 32 refine⟨?_,fun K z=> ?_⟩
       · trivial
       all_goals try (go_simp;exact z _ aE.out;done)
       · go_simp
         exact aw (bq.out _ a) fun wc J=>z _ (ax a J)
       go_simp;refine(bo.out _).mono ?_;rintro bN wc ⟨aP,aS⟩;have J:=aS.below;subst aP;exact z _ (ax a J)
      cases G with
      | false=>
        simp only[lk];have b:et L (dV cs i) (e,2)=Q:=by rw[fq];simp only;rw[<-ae.out,dJ]
        have y:=R b;clear b;have A:=E.out.bel.trans (a.mono E.out.bel.size);have N:=R A;clear A;go_wp2
        go_ret2
        exact⟨N.out, .inl ⟨aC.out (ay.out y.out),_,rfl⟩⟩
      | true=>
        simp only[ll];have b:et L (dV cs i) (e,2)=S:=by rw[fq];simp only;rw[<-ae.out,a5.out];decide
        have y:=R b;have I:=E.out.below a;have bD:=I.cj.dk;have ah:=pe bs.out ae.out.symm;obtain⟨aD,af⟩:=aY ah I;clear b ah I
        go_wp2_with fail
        go_still_tail 8,(by kernel_rfl)
        change wpList _ _ _ _ _ ao.drew
        go_wp2_with (at_mapUpdate;go_loud (refine mn (k:=e8) rfl _ _ _ rfl af.out.cj.d9.drew rfl (by unfold maxLen;omega) e aD.out 2 rfl rfl (by decide) ?_);intro ci aW aR)
        have az:=R ((af.out.below aX.drew).put br.out aR aW);go_roundw
        case rel=>exact⟨i+1,by omega,by go_num,R (an.out y.out),az⟩
        case measure=>simp[intOf];omega
    have bf:(cK !=1)=S:=by simpa using ar
    have bX:(cK !=2)=S:=by simpa using aU
    have b:et L (dV cs i) (e,cK)=Q:=by rw[fq,decide_eq_false (show ¬(cK=1∨cK=2) by omega)];simp
    have y:=R b;clear b ar aU;refine bW (fin:= ?z7) [B o i, aa S, aa S, ad (D ⟨w.heap.size,3,F⟩), O (D ⟨P,T,F⟩) nc cc, B o i, B o j, ad (D ⟨P,T+j*5,F⟩), ad (D ⟨P,T+j*5,F⟩), aq #[B o g.1, B o g.2.1, B o g.2.2.1, B o g.2.2.2], ad (D ⟨wr.heap.size,0,F⟩), aq #[B o e.1, B o e.2.1, B o e.2.2.1, B o e.2.2.2], B o av, aa Q, aa Q, aa Q, ad (D ⟨wr.heap.size,4,F⟩), B o cK, aa S, aa S, ad (D ⟨wr.heap.size,4,F⟩), B o cK, aa S, aa S, aa S, aa S,U,U,U,U,U, aa S] ?hf bp (by kernel_rfl) rfl fun ao a=> ?_;case hf=>simp only[aT,a6,bd,ba,bc];exact rfl
    have an:=R a;obtain⟨q0,aZ,bm,a2,a3,a4,cd,ce,cg,ch⟩:=la a aM aF aH aJ aK aL bj bk bl bn;constructor
    ·iterate 32 refine⟨?_,fun K z=> ?_⟩
     · trivial
     all_goals try (go_simp;exact z _ an.out;done)
     go_simp;refine(bo.out _).mono ?_;rintro bN wc ⟨aP,aS⟩;have J:=aS.below;subst aP;exact z _ (ax a J)
    have A:=E.out.bel.trans (a.mono E.out.bel.size);have N:=R A;clear A;go_wp2
    go_ret2
    exact⟨N.out, .inl ⟨aC.out (ay.out y.out),_,rfl⟩⟩
  obtain rfl:i=nc:=by omega
  have db:¬(i:Int) < (i:Int):=by omega
  have bi:∀t ∈ L,gw t:=fun t ht=>by have:=bI.out t ht;exact⟨by omega,by omega,this.2.2.2.2⟩
  have bL:=zq (w.heap.size+1+1+1+1) (w.heap.size+1+1) (w.heap.size+1+1+1) s M w.heap.size (O Am nm cm) (O Ac i cc) bJ L m i (fY (cs.take i)) wr (du.out.below aN.out.bel) aN.out.cj aN.out.own bi cZ.out c4.out;have hall:eQ L F cs=S:=by have:=cA.out;rwa [List.take_of_length_le (by omega)] at this
  have a1:a8=gc L:=by rw[cl.out,hall,Bool.true_and]
  obtain⟨dp,cw⟩:=ai (gc L);rw[<-cw] at bL a1;obtain⟨cV,c1⟩:=aY bL a1;clear bL a1 cw hall bi
  go_wp2_with (go_at_call 88;refine aw cV.out fun dA c6=> ?_)
  go_ret2
  have cD:=aN.out.below c6;refine⟨cD.bel, ?_⟩;have dd:=c1.out;subst dd
  cases a8 with
  | false=>exact .inl ⟨rfl,_,rfl⟩
  | true=>
    refine .inr ⟨rfl,s,M,w.heap.size+1+1+1+1,w.heap.size,w.heap.size+1+1,w.heap.size+1+1+1,m,bJ,rfl,rfl,hW,bQ,cF,rfl, ?_⟩;rw[<-cY.out,da];exact cD
end
section
open Go.RowKit Go.Maps
variable {cs:List bw}{l:List ah}
theorem t1(a b:aO):fD a b=S↔(a.1 < b.1∨a.1=b.1/\a.2.1 < b.2.1)∨(a.1=b.1/\a.2.1=b.2.1)/\(a.2.2.1 < b.2.2.1∨a.2.2.1=b.2.2.1/\a.2.2.2 < b.2.2.2):=by
 unfold fD fh;simp
theorem Aa{a b c:aO}(h:fD a b=S)(g:fD b c=S):fD a c=S:=by
 rw[t1] at*;omega
theorem zZ(a:aO):fD a a≠S:=by
 intro h;rw[t1] at h;omega
theorem td:∀{cs:List bw} {s:Option bw},eQ l s cs=S->cs.Pairwise (fun a b=>fD a.1 b.1=S)/\(∀p,s=D p->∀c ∈ cs,fD p.1 c.1=S)/\(∀c ∈ cs,(c.2=1∨c.2=2)/\gC l c.1=S)
 | [],_,_=>⟨List.Pairwise.nil,(fun _ _ _ h=>by cases h),(fun _ h=>by cases h)⟩
 | c::cs,s,h=>by
  simp only[eQ,cu] at h;obtain⟨h1,ab⟩:=h;obtain⟨z,A,E⟩:=td ab;have hc:=A c rfl;simp only[et,cu,decide_eq_true_eq] at h1;refine⟨j8.2 ⟨hc,z⟩, ?_, ?_⟩
  ·intro p G x i
   subst G;have y:fD p.1 c.1=S:=h1.1.1;rcases dC.1 i with rfl | i
   ·exact y
   ·exact Aa y (hc x i)
  intro x i;rcases dC.1 i with rfl | i
  ·exact⟨h1.1.2,h1.2⟩
  ·exact E x i
theorem yu{e:aO}(h:∀c ∈ cs,c.1≠e):∀f:aO->Option Int,(cs.foldl (fun f c=>dX f c.1 c.2) f) e=f e:=by
 induction cs with
 | nil=>intro f;rfl
 | cons c cs r=>
  intro f;rw[List.foldl_cons,r (fun x i=>h x (List.mem_cons_of_mem _ i))];have:=h c List.mem_cons_self;unfold dX;rw[if_neg (fun k=>this k.symm)]
theorem yt(h:cs.Pairwise (fun a b=>fD a.1 b.1=S))(e:aO):∀f:aO->Option Int,f e=F->((cs.foldl (fun f c=>dX f c.1 c.2) f) e).getD 0=ea cs e:=by
 induction cs with
 | nil=>intro f hf;simp[ea,hf]
 | cons c cs r=>
  intro f hf;rw[j8] at h;rw[List.foldl_cons];unfold ea;by_cases hc:c.1=e
  ·rw[if_pos hc]
   rw[yu (fun x i k=>by
    have:=h.1 x i;rw[hc,k] at this;exact zZ _ this)]
   simp[dX,hc]
  rw[if_neg hc];refine r h.2 _ ?_;unfold dX;rw[if_neg (fun k=>hc k.symm)];exact hf
theorem rm(h:eQ l F cs=S)(e:aO):(fY cs e).getD 0=ea cs e:=yt (td h).1 e _ rfl
theorem yk(h:eQ l F cs=S):n7 (fY cs)=fr Q cs:=by
 funext e
 unfold n7 fr;rw[rm h,Bool.false_or]
theorem py{W H:Int}{mask:List Int}(h:fu W H mask cs=S):eQ (bG W.toNat mask) F cs=S:=by
 unfold fu at h;simp only[cu] at h;exact h.2.1
end
section
open Go.RowKit Go.Maps
variable {e:aO}{L:List ah}{i j k:Nat}{t:ah}
def gY(e:aO):Int:=if e.1=e.2.2.1 then 0 else if e.2.1=e.2.2.2 then 1 else if e.1+e.2.1=e.2.2.1+e.2.2.2 then 2 else 3
def h7(e:aO):Int:=d3 (gY e) e.1 e.2.1
structure lC(e:aO):Prop where
 one:e.1=e.2.2.1∨e.2.1=e.2.2.2∨e.1+e.2.1=e.2.2.1+e.2.2.2∨e.1-e.2.1=e.2.2.1-e.2.2.2
 b0: -40<=e.1/\e.1<=40
 b1: -40<=e.2.1/\e.2.1<=40
 aC: -40<=e.2.2.1/\e.2.2.1<=40
 aM: -40<=e.2.2.2/\e.2.2.2<=40
def eD(t:ah):Prop:=(0<=t.1/\t.1<=8)/\(0<=t.2.1/\t.2.1<=8)/\dN t
theorem eD.sm(h:eD t):gw t:=by
 obtain⟨h1,ab,ag⟩:=h;exact⟨by omega,by omega,ag⟩
theorem eD.iI(h:eD t)(al:i < 3):lC (bk t i):=by
 obtain⟨h1,ab,ag⟩:=h;obtain⟨x,y,e⟩:=iM ag;rcases e7 al with rfl | rfl | rfl <;> rcases e with rfl | rfl | rfl | rfl <;> simp only[lM,lN,lO,iF,iG,iH,lP,lQ,lR,lS,lT,lU] at h1 ab |- <;> constructor <;> simp only <;> first | omega | (simp;done) | (simp;omega)
theorem ue(e:aO):0<=gY e/\gY e<=3:=by
 unfold gY
 (repeat' split) <;> omega
theorem ud(h:lC e): -80<=h7 e/\h7 e<=80:=by
 unfold h7;exact Dv (M:=40) h.b0.1 h.b0.2 h.b1.1 h.b1.2
def gI(j:Nat)(e:aO):Int:=d3 j e.1 e.2.1
def hQ(j:Nat)(e:aO):Int:=d3 j e.2.2.1 e.2.2.2
theorem v0(x y:Int):d3 ((0:Nat):Int) x y=x:=by simp[d3]
theorem v1(x y:Int):d3 ((1:Nat):Int) x y=y:=by simp[d3]
theorem v2(x y:Int):d3 ((2:Nat):Int) x y=x+y:=by simp[d3]
theorem v3(x y:Int):d3 ((3:Nat):Int) x y=x-y:=by simp[d3]
theorem uf(g:j < 4)(hn:∀i,i < j->gI i e≠hQ i e)(a:gI j e=hQ j e):gY e=j/\h7 e=gI j e:=by
 have key:gY e=j:=by
  have az:j=0∨j=1∨j=2∨j=3:=by omega
  unfold gY;rcases az with rfl | rfl | rfl | rfl
  ·simp only[gI,hQ,v0] at a
   rw[if_pos a];rfl
  ·have h0:=hn 0 (by omega)
   simp only[gI,hQ,v0,v1] at a h0;rw[if_neg h0,if_pos a];rfl
  ·have h0:=hn 0 (by omega)
   have h1:=hn 1 (by omega);simp only[gI,hQ,v0,v1,v2] at a h0 h1;rw[if_neg h0,if_neg h1,if_pos a];rfl
  have h0:=hn 0 (by omega);have h1:=hn 1 (by omega);have ab:=hn 2 (by omega);simp only[gI,hQ,v0,v1,v2,v3] at a h0 h1 ab;rw[if_neg h0,if_neg h1,if_neg ab];rfl
 exact⟨key,by unfold h7 gI;rw[key]⟩
theorem ug(h:lC e)(g:j < 4)(hn:∀i,i < j->gI i e≠hQ i e)(a:gI j e≠hQ j e):j < 3:=by
 apply mr
 intro ag;have c:j=3:=by omega
 subst c;have h0:=hn 0 (by omega);have h1:=hn 1 (by omega);have ab:=hn 2 (by omega);simp only[gI,hQ,v0,v1,v2,v3] at a h0 h1 ab;have:=h.one;omega
def mj(C:aO->Bool)(e:aO)(m:aR):aR:=if C e=S then m else jz (fE (gY e) (h7 e)) m
def fj(L:List ah)(i k:Nat):Option Nat:=match L[i]? with
 | some t=>if bE t k ∈ L then D (L.idxOf (bE t k)) else F
 | none=>F
def kF(L:List ah)(C:aO->Bool)(i k:Nat)(m:aR):aR:=match L[i]? with
 | some t=>mj C (bk t k) m
 | none=>m
theorem og(ht:L[i]? =D t)(h:bE t k ∈ L):fj L i k=D (L.idxOf (bE t k)):=by
 unfold fj;rw[ht];simp[h]
theorem px(ht:L[i]? =D t)(h:bE t k ∉ L):fj L i k=F:=by
 unfold fj;rw[ht];simp[h]
theorem oe(ht:L[i]? =D t)(h:fj L i k=D j):L[j]? =D (bE t k):=by
 unfold fj at h;rw[ht] at h;simp only at h
 split at h
 ·cases h
  rename_i l
  rw[bb (List.idxOf_lt_length_of_mem l),List.getElem_idxOf]
 ·cases h
theorem rV{C:aO->Bool}(ht:L[i]? =D t)(m:aR):kF L C i k m=mj C (bk t k) m:=by
 unfold kF;rw[ht]
def qy(b:Nat)(m:aR):Prop:=kO m (160*b)
theorem qy.more{b:Nat}{m:aR}(h:qy b m):qy (b+1) m:=h.mono (by omega)
end
section
set_option maxRecDepth 100000
open Go.RowKit Go.Maps
abbrev mD(v c:Int):Value:= aq #[B o v, B o c]
theorem vx{bn:Nat}{a w:ac}(h:Below bn a w){g:Nat}(bE:bn<=g)(u v:Value):Below bn a ((w.setCell ⟨g,0,F⟩ u).setCell ⟨g,1,F⟩ v):=(h.setCell (p:=⟨g,0,F⟩) bE u).setCell (p:=⟨g,1,F⟩) bE v
theorem Aj(e:aO)(w:ac)(a8:lC e):
  bB aj 91 #[bS e] w fun r Z=>r= .returned (mD (gY e) (h7 e))/\Below w.heap.size w Z:=by
 have a4:=aN (aV w (Y #[B o e.1, B o e.2.1, B o e.2.2.1, B o e.2.2.2] 42)) (Y #[B o 0, B o 0] 67);have bi:=aW (aQ w (Y #[B o e.1, B o e.2.1, B o e.2.2.1, B o e.2.2.2] 42)) (Y #[B o 0, B o 0] 67);have aE:=aQ (w.alloc (Y #[B o e.1, B o e.2.1, B o e.2.2.1, B o e.2.2.2] 42)) (Y #[B o 0, B o 0] 67);rw[World.size_alloc] at aE;obtain⟨ab,ae,af,ah⟩:=dm bi;obtain⟨aF,aG⟩:=d7 aE;have eu:=br aE;obtain⟨am,aH⟩:=aY a8 a4;have bh:w.heap.size+1 < ((w.alloc (Y #[B o e.1, B o e.2.1, B o e.2.2.1, B o e.2.2.2] 42)).alloc (Y #[B o 0, B o 0] 67)).heap.size:=by simp
 clear a8 a4 bi aE;go_in
 go_wp2_with fail
 generalize (w.alloc (Y #[B o e.1, B o e.2.1, B o e.2.2.1, B o e.2.2.2] 42)).alloc (Y #[B o 0, B o 0] 67)=w0 at ab ae af ah aF aG eu aH bh |-;go_loopw [5] (fun x wr=>∃j:Nat,j < 4/\x= B o j/\Hid (∀i,i < j->gI i e≠hQ i e)/\Hid (Below w0.heap.size w0 wr)) (fun x _=>4-(intOf x).toNat)
 case atStart=>exact⟨0,by omega,rfl,R (fun i al=>by omega),R aX⟩
 obtain⟨j,a9,rfl,hn,aK⟩:=hrel;have bG:(j:Int) < 4:=by omega
 have b0:=am.out.b0;have b1:=am.out.b1;have aC:=am.out.aC;have aM:=am.out.aM;obtain⟨ab,ae,af,ah⟩:=fQ aK.out ab ae af ah;have dp:=fun(W':ac)=>v7 (j:Int) e.1 e.2.1 W' (by omega) (by omega) (by omega) (by omega);have aP:=fun(W':ac)=>v7 (j:Int) e.2.2.1 e.2.2.2 W' (by omega) (by omega) (by omega) (by omega);have an:=fun h=>uf a9 hn.out h;have ao:=fun h=>ug am.out a9 hn.out h;have aT:gI j e=d3 j e.1 e.2.1:=rfl;have aU:hQ j e=d3 j e.2.2.1 e.2.2.2:=rfl;rw[aT,aU] at an ao;obtain⟨a,P⟩:=ai (d3 j e.1 e.2.1);obtain⟨b,aS⟩:=ai (d3 j e.2.2.1 e.2.2.2);rw[<-P] at dp an ao;rw[<-aS] at aP an ao;obtain⟨a0,bj,bo,bp,a1⟩:=dY dp aP an ao (a7 (aT.trans P.symm) (aU.trans aS.symm));clear dp aP an ao aT aU P aS b0 b1 aC aM
 go_wp2_with fail
 refine aw (a0.out _) fun bI bx=> ?_;obtain⟨ab,ae,af,ah⟩:=fQ bx ab ae af ah;have bF:=R (ax aK.out bx);clear bx
 go_wp2_with fail
 refine aw (bj.out _) fun bD a5=> ?_;have ar:=R (ax bF.out a5);clear a5 ab ae af ah;have aF:=V aF ar.out;have aG:=V aG ar.out;have eu:∀i,bD.frozen? ⟨w.heap.size+1,i,F⟩=Q:=fun i=>(ar.out.frozen (p:=⟨w.heap.size+1,i,F⟩) bh).trans (eu i);by_cases N:a=b
 ·have bz:(a==b)=S:=by simpa using N
  have bg:=bo.out N;have a2:=R bg;clear bg N;go_wp2;refine cT (v:=mD j a) (by simp[results,Tryz.results91,go_sem,aF,aG]) rfl ⟨by rw[a2.out.1,a2.out.2], ?_⟩;exact vx (aH.out.trans (ar.out.mono aH.out.size)) (Nat.le_succ _) _ _
 have bz:(a==b)=Q:=by simpa using N
 have ag:=bp.out N;have be:∀i,i < j+1->gI i e≠hQ i e:=by
  intro i al;by_cases h:i < j
  ·exact hn.out i h
  have:i=j:=by omega
  subst this;rw[a1.out.1,a1.out.2];exact N
 have bq:=R be;clear be N;go_wp2;go_roundw
 case rel=>exact⟨j+1,by omega,by go_num,bq,ar⟩
 case measure=>simp[intOf];omega
theorem Ai(e:aO)(w:ac)(a8:lC e):
  bB aj 75 #[bS e] w fun r Z=>r= .returned (mD (gY e) (h7 e))/\Below w.heap.size w Z:=by
 have a4:=aN (aV w (Y #[B o e.1, B o e.2.1, B o e.2.2.1, B o e.2.2.2] 42)) (Y #[B o 0, B o 0] 67);have bi:=aW (aQ w (Y #[B o e.1, B o e.2.1, B o e.2.2.1, B o e.2.2.2] 42)) (Y #[B o 0, B o 0] 67);have aE:=aQ (w.alloc (Y #[B o e.1, B o e.2.1, B o e.2.2.1, B o e.2.2.2] 42)) (Y #[B o 0, B o 0] 67);rw[World.size_alloc] at aE;obtain⟨ab,ae,af,ah⟩:=dm bi;obtain⟨aF,aG⟩:=d7 aE;have eu:=br aE;obtain⟨am,aH⟩:=aY a8 a4;have bh:w.heap.size+1 < ((w.alloc (Y #[B o e.1, B o e.2.1, B o e.2.2.1, B o e.2.2.2] 42)).alloc (Y #[B o 0, B o 0] 67)).heap.size:=by simp
 clear a8 a4 bi aE;go_in
 go_wp2_with fail
 generalize (w.alloc (Y #[B o e.1, B o e.2.1, B o e.2.2.1, B o e.2.2.2] 42)).alloc (Y #[B o 0, B o 0] 67)=w0 at ab ae af ah aF aG eu aH bh |-;go_loopw [3] (fun x wr=>∃j:Nat,j < 4/\x= B o j/\Hid (∀i,i < j->gI i e≠hQ i e)/\Hid (Below w0.heap.size w0 wr)) (fun x _=>4-(intOf x).toNat)
 case atStart=>exact⟨0,by omega,rfl,R (fun i al=>by omega),R aX⟩
 obtain⟨j,a9,rfl,hn,aK⟩:=hrel;have b0:=am.out.b0;have b1:=am.out.b1;have aC:=am.out.aC;have aM:=am.out.aM;obtain⟨ab,ae,af,ah⟩:=fQ aK.out ab ae af ah;have dp:=fun(W':ac)=>v6 (j:Int) e.1 e.2.1 W' (by omega) (by omega) (by omega) (by omega);have aP:=fun(W':ac)=>v6 (j:Int) e.2.2.1 e.2.2.2 W' (by omega) (by omega) (by omega) (by omega);have an:=fun h=>uf a9 hn.out h;have ao:=fun h=>ug am.out a9 hn.out h;have aT:gI j e=d3 j e.1 e.2.1:=rfl;have aU:hQ j e=d3 j e.2.2.1 e.2.2.2:=rfl;rw[aT,aU] at an ao;obtain⟨a,P⟩:=ai (d3 j e.1 e.2.1);obtain⟨b,aS⟩:=ai (d3 j e.2.2.1 e.2.2.2);rw[<-P] at dp an ao;rw[<-aS] at aP an ao;obtain⟨a0,bj,bo,bp,a1⟩:=dY dp aP an ao (a7 (aT.trans P.symm) (aU.trans aS.symm));have bH:b7.wrap ((j:Int)+1)=(j:Int)+1:=ca _ (by omega)
 clear dp aP an ao aT aU P aS b0 b1 aC aM;go_upto_region 9 with fail
 by_cases N:a=b
 ·have bz:(a !=b)=Q:=by simpa using N
  have bl:=R N;clear N;refine mo (fun aI aJ M=>∃s:Nat->Value,aJ={tmps:=#[bS e, ad (D ⟨w.heap.size,0,F⟩), ad (D ⟨w.heap.size+1,0,F⟩), B o (j:Int),(s 0),(s 1),(s 2),(s 3),(s 4),(s 5),(s 6),(s 7),(s 8),u13,u14,U,U,U,U,U,U],defers:= []}/\cL 9 [D (B o (j:Int)),D (ad (D ⟨w.heap.size,0,F⟩)),D (aq #[B o e.1, B o e.2.1]),D (B o a),D (B o (j:Int)),D (ad (D ⟨w.heap.size,2,F⟩)),D (aq #[B o e.2.2.1, B o e.2.2.2]),D (B o b),D (aa Q)] aI s/\(M.cell? ⟨w.heap.size,0,F⟩=D (B o e.1)/\M.cell? ⟨w.heap.size,1,F⟩=D (B o e.2.1)/\M.cell? ⟨w.heap.size,2,F⟩=D (B o e.2.2.1)/\M.cell? ⟨w.heap.size,3,F⟩=D (B o e.2.2.2)/\Below wr.heap.size wr M)) (by kernel_rfl) ?_ ?_ ?_
  ·exact⟨pk [u4,u5,u6,u7,u8,u9,u10,u11,u12],rfl,cL.start 9 _ _,⟨ab,ae,af,ah,aX.drew⟩⟩
  ·intro aI aJ M J aR l
   obtain⟨s,rfl,E,hst⟩:=aR;have bA:J < 9:=jU l;obtain⟨y,G⟩:=aY E hst;clear E hst;have bC:J=0∨J=1∨J=2∨J=3∨J=4∨J=5∨J=6∨J=7∨J=8:=by omega
   clear bA;rcases bC with rfl | rfl | rfl | rfl | rfl | rfl | rfl | rfl | rfl
   ·clear l
    refine cB rfl (fun K z=> ?_);go_simp;refine z _ _ ?_;exact⟨bO s 0 (B o (j:Int)),rfl,cL.put y.out (fun u A=>by cases A;rfl),G.out⟩
   ·clear l
    refine cB rfl (fun K z=> ?_);go_simp;refine z _ _ ?_;exact⟨bO s 1 (ad (D ⟨w.heap.size,0,F⟩)),rfl,cL.put y.out (fun u A=>by cases A;rfl),G.out⟩
   ·have d1:=cA l (k:=1) (by kernel_rfl)
    clear l;have ap:s 1= ad (D ⟨w.heap.size,0,F⟩):=y.out.v d1 rfl;obtain⟨q0,aZ,bm,T,L⟩:=G.out;refine cB rfl (fun K z=> ?_);go_simp;refine z _ _ ?_;exact⟨bO (bO s 1 (ad (D ⟨w.heap.size,0,F⟩))) 2 (aq #[B o e.1, B o e.2.1]),rfl,cL.put (cL.dt (j:=1) (v:= ad (D ⟨w.heap.size,0,F⟩)) y.out ap) (fun u A=>by cases A;rfl),G.out⟩
   ·have d0:=cA l (k:=0) (by kernel_rfl)
    have d2:=cA l (k:=2) (by kernel_rfl);clear l;have av:s 0= B o (j:Int):=y.out.v d0 rfl;have ak:s 2= aq #[B o e.1, B o e.2.1]:=y.out.v d2 rfl;obtain⟨q0,aZ,bm,T,L⟩:=G.out;refine cB rfl (fun K z=> ?_);go_simp;refine aw (a0.out _) fun wc I=> ?_;refine z _ _ ?_;exact⟨bO (bO (bO s 0 (B o (j:Int))) 2 (aq #[B o e.1, B o e.2.1])) 3 (B o a),rfl,cL.put (cL.dt (j:=2) (v:= aq #[B o e.1, B o e.2.1]) (cL.dt (j:=0) (v:= B o (j:Int)) y.out av) ak) (fun u A=>by cases A;rfl),⟨V q0 I,V aZ I,V bm I,V T I,ax L I⟩⟩
   ·clear l
    refine cB rfl (fun K z=> ?_);go_simp;refine z _ _ ?_;exact⟨bO s 4 (B o (j:Int)),rfl,cL.put y.out (fun u A=>by cases A;rfl),G.out⟩
   ·clear l
    refine cB rfl (fun K z=> ?_);go_simp;refine z _ _ ?_;exact⟨bO s 5 (ad (D ⟨w.heap.size,2,F⟩)),rfl,cL.put y.out (fun u A=>by cases A;rfl),G.out⟩
   ·have bu:=cA l (k:=5) (by kernel_rfl)
    clear l;have aA:s 5= ad (D ⟨w.heap.size,2,F⟩):=y.out.v bu rfl;obtain⟨q0,aZ,bm,T,L⟩:=G.out;refine cB rfl (fun K z=> ?_);go_simp;refine z _ _ ?_;exact⟨bO (bO s 5 (ad (D ⟨w.heap.size,2,F⟩))) 6 (aq #[B o e.2.2.1, B o e.2.2.2]),rfl,cL.put (cL.dt (j:=5) (v:= ad (D ⟨w.heap.size,2,F⟩)) y.out aA) (fun u A=>by cases A;rfl),G.out⟩
   ·have bt:=cA l (k:=4) (by kernel_rfl)
    have bv:=cA l (k:=6) (by kernel_rfl);clear l;have az:s 4= B o (j:Int):=y.out.v bt rfl;have aB:s 6= aq #[B o e.2.2.1, B o e.2.2.2]:=y.out.v bv rfl;obtain⟨q0,aZ,bm,T,L⟩:=G.out;refine cB rfl (fun K z=> ?_);go_simp;refine aw (bj.out _) fun wc I=> ?_;refine z _ _ ?_;exact⟨bO (bO (bO s 4 (B o (j:Int))) 6 (aq #[B o e.2.2.1, B o e.2.2.2])) 7 (B o b),rfl,cL.put (cL.dt (j:=6) (v:= aq #[B o e.2.2.1, B o e.2.2.2]) (cL.dt (j:=4) (v:= B o (j:Int)) y.out az) aB) (fun u A=>by cases A;rfl),⟨V q0 I,V aZ I,V bm I,V T I,ax L I⟩⟩
   have bs:=cA l (k:=3) (by kernel_rfl);have bw:=cA l (k:=7) (by kernel_rfl);clear l;have ay:s 3= B o a:=y.out.v bs rfl;have aD:s 7= B o b:=y.out.v bw rfl;refine cB rfl (fun K z=> ?_);go_simp;refine z _ _ ?_;exact⟨bO (bO (bO s 3 (B o a)) 7 (B o b)) 8 (aa Q),rfl,cL.put (cL.dt (j:=7) (v:= B o b) (cL.dt (j:=3) (v:= B o a) y.out ay) aD) (fun u A=>by cases A;rfl),G.out⟩
  intro aI aJ M aR bf;obtain⟨s,P,E,hst⟩:=aR;have hall:=lE bf E.aL (by kernel_rfl);clear bf;have av:s 0=(B o (j:Int)):=E.v (hall 0 (by decide)) rfl;have ap:s 1=(ad (D ⟨w.heap.size,0,F⟩)):=E.v (hall 1 (by decide)) rfl;have ak:s 2=(aq #[B o e.1, B o e.2.1]):=E.v (hall 2 (by decide)) rfl;have ay:s 3=(B o a):=E.v (hall 3 (by decide)) rfl;have az:s 4=(B o (j:Int)):=E.v (hall 4 (by decide)) rfl;have aA:s 5=(ad (D ⟨w.heap.size,2,F⟩)):=E.v (hall 5 (by decide)) rfl;have aB:s 6=(aq #[B o e.2.2.1, B o e.2.2.2]):=E.v (hall 6 (by decide)) rfl;have aD:s 7=(B o b):=E.v (hall 7 (by decide)) rfl;have a3:s 8=(aa Q):=E.v (hall 8 (by decide)) rfl;simp only[av,ap,ak,ay,az,aA,aB,aD,a3] at P;subst P;clear hall E av ap ak ay az aA aB aD a3
  obtain⟨q0,aZ,bm,T,L⟩:=hst;have bg:=bo.out bl.out;obtain⟨a2,ar⟩:=aY bg (ax aK.out L);clear bg L
  go_wp2_with fail
  refine aw (a0.out _) fun bD a5=> ?_;have bk:=R (ax ar.out a5);have aF:=V aF bk.out;have aG:=V aG bk.out;have eu:∀i,bD.frozen? ⟨w.heap.size+1,i,F⟩=Q:=fun i=>(bk.out.frozen (p:=⟨w.heap.size+1,i,F⟩) bh).trans (eu i);clear a5;go_wp2;refine cT (v:=mD j a) (by simp[results,Tryz.results75,go_sem,aF,aG]) rfl ⟨by rw[a2.out.1,a2.out.2], ?_⟩;exact vx (aH.out.trans (bk.out.mono aH.out.size)) (Nat.le_succ _) _ _
 have bz:(a !=b)=S:=by simpa using N
 have bl:=R N;clear N;refine mo (fun aI aJ M=>∃s:Nat->Value,aJ={tmps:=#[bS e, ad (D ⟨w.heap.size,0,F⟩), ad (D ⟨w.heap.size+1,0,F⟩), B o (j:Int),(s 0),(s 1),(s 2),(s 3),(s 4),(s 5),(s 6),(s 7),(s 8),u13,u14,U,U,U,U,U,U],defers:= []}/\cL 9 [D (B o (j:Int)),D (ad (D ⟨w.heap.size,0,F⟩)),D (aq #[B o e.1, B o e.2.1]),D (B o a),D (B o (j:Int)),D (ad (D ⟨w.heap.size,2,F⟩)),D (aq #[B o e.2.2.1, B o e.2.2.2]),D (B o b),D (aa S)] aI s/\(M.cell? ⟨w.heap.size,0,F⟩=D (B o e.1)/\M.cell? ⟨w.heap.size,1,F⟩=D (B o e.2.1)/\M.cell? ⟨w.heap.size,2,F⟩=D (B o e.2.2.1)/\M.cell? ⟨w.heap.size,3,F⟩=D (B o e.2.2.2)/\Below wr.heap.size wr M)) (by kernel_rfl) ?_ ?_ ?_
 ·exact⟨pk [u4,u5,u6,u7,u8,u9,u10,u11,u12],rfl,cL.start 9 _ _,⟨ab,ae,af,ah,aX.drew⟩⟩
 ·intro aI aJ M J aR l
  obtain⟨s,rfl,E,hst⟩:=aR;have bA:J < 9:=jU l;obtain⟨y,G⟩:=aY E hst;clear E hst;have bC:J=0∨J=1∨J=2∨J=3∨J=4∨J=5∨J=6∨J=7∨J=8:=by omega
  clear bA;rcases bC with rfl | rfl | rfl | rfl | rfl | rfl | rfl | rfl | rfl
  ·clear l
   refine cB rfl (fun K z=> ?_);go_simp;refine z _ _ ?_;exact⟨bO s 0 (B o (j:Int)),rfl,cL.put y.out (fun u A=>by cases A;rfl),G.out⟩
  ·clear l
   refine cB rfl (fun K z=> ?_);go_simp;refine z _ _ ?_;exact⟨bO s 1 (ad (D ⟨w.heap.size,0,F⟩)),rfl,cL.put y.out (fun u A=>by cases A;rfl),G.out⟩
  ·have d1:=cA l (k:=1) (by kernel_rfl)
   clear l;have ap:s 1= ad (D ⟨w.heap.size,0,F⟩):=y.out.v d1 rfl;obtain⟨q0,aZ,bm,T,L⟩:=G.out;refine cB rfl (fun K z=> ?_);go_simp;refine z _ _ ?_;exact⟨bO (bO s 1 (ad (D ⟨w.heap.size,0,F⟩))) 2 (aq #[B o e.1, B o e.2.1]),rfl,cL.put (cL.dt (j:=1) (v:= ad (D ⟨w.heap.size,0,F⟩)) y.out ap) (fun u A=>by cases A;rfl),G.out⟩
  ·have d0:=cA l (k:=0) (by kernel_rfl)
   have d2:=cA l (k:=2) (by kernel_rfl);clear l;have av:s 0= B o (j:Int):=y.out.v d0 rfl;have ak:s 2= aq #[B o e.1, B o e.2.1]:=y.out.v d2 rfl;obtain⟨q0,aZ,bm,T,L⟩:=G.out;refine cB rfl (fun K z=> ?_);go_simp;refine aw (a0.out _) fun wc I=> ?_;refine z _ _ ?_;exact⟨bO (bO (bO s 0 (B o (j:Int))) 2 (aq #[B o e.1, B o e.2.1])) 3 (B o a),rfl,cL.put (cL.dt (j:=2) (v:= aq #[B o e.1, B o e.2.1]) (cL.dt (j:=0) (v:= B o (j:Int)) y.out av) ak) (fun u A=>by cases A;rfl),⟨V q0 I,V aZ I,V bm I,V T I,ax L I⟩⟩
  ·clear l
   refine cB rfl (fun K z=> ?_);go_simp;refine z _ _ ?_;exact⟨bO s 4 (B o (j:Int)),rfl,cL.put y.out (fun u A=>by cases A;rfl),G.out⟩
  ·clear l
   refine cB rfl (fun K z=> ?_);go_simp;refine z _ _ ?_;exact⟨bO s 5 (ad (D ⟨w.heap.size,2,F⟩)),rfl,cL.put y.out (fun u A=>by cases A;rfl),G.out⟩
  ·have bu:=cA l (k:=5) (by kernel_rfl)
   clear l;have aA:s 5= ad (D ⟨w.heap.size,2,F⟩):=y.out.v bu rfl;obtain⟨q0,aZ,bm,T,L⟩:=G.out;refine cB rfl (fun K z=> ?_);go_simp;refine z _ _ ?_;exact⟨bO (bO s 5 (ad (D ⟨w.heap.size,2,F⟩))) 6 (aq #[B o e.2.2.1, B o e.2.2.2]),rfl,cL.put (cL.dt (j:=5) (v:= ad (D ⟨w.heap.size,2,F⟩)) y.out aA) (fun u A=>by cases A;rfl),G.out⟩
  ·have bt:=cA l (k:=4) (by kernel_rfl)
   have bv:=cA l (k:=6) (by kernel_rfl);clear l;have az:s 4= B o (j:Int):=y.out.v bt rfl;have aB:s 6= aq #[B o e.2.2.1, B o e.2.2.2]:=y.out.v bv rfl;obtain⟨q0,aZ,bm,T,L⟩:=G.out;refine cB rfl (fun K z=> ?_);go_simp;refine aw (bj.out _) fun wc I=> ?_;refine z _ _ ?_;exact⟨bO (bO (bO s 4 (B o (j:Int))) 6 (aq #[B o e.2.2.1, B o e.2.2.2])) 7 (B o b),rfl,cL.put (cL.dt (j:=6) (v:= aq #[B o e.2.2.1, B o e.2.2.2]) (cL.dt (j:=4) (v:= B o (j:Int)) y.out az) aB) (fun u A=>by cases A;rfl),⟨V q0 I,V aZ I,V bm I,V T I,ax L I⟩⟩
  have bs:=cA l (k:=3) (by kernel_rfl);have bw:=cA l (k:=7) (by kernel_rfl);clear l;have ay:s 3= B o a:=y.out.v bs rfl;have aD:s 7= B o b:=y.out.v bw rfl;refine cB rfl (fun K z=> ?_);go_simp;refine z _ _ ?_;exact⟨bO (bO (bO s 3 (B o a)) 7 (B o b)) 8 (aa S),rfl,cL.put (cL.dt (j:=7) (v:= B o b) (cL.dt (j:=3) (v:= B o a) y.out ay) aD) (fun u A=>by cases A;rfl),G.out⟩
 intro aI aJ M aR bf;obtain⟨s,P,E,hst⟩:=aR;have hall:=lE bf E.aL (by kernel_rfl);clear bf;have av:s 0=(B o (j:Int)):=E.v (hall 0 (by decide)) rfl;have ap:s 1=(ad (D ⟨w.heap.size,0,F⟩)):=E.v (hall 1 (by decide)) rfl;have ak:s 2=(aq #[B o e.1, B o e.2.1]):=E.v (hall 2 (by decide)) rfl;have ay:s 3=(B o a):=E.v (hall 3 (by decide)) rfl;have az:s 4=(B o (j:Int)):=E.v (hall 4 (by decide)) rfl;have aA:s 5=(ad (D ⟨w.heap.size,2,F⟩)):=E.v (hall 5 (by decide)) rfl;have aB:s 6=(aq #[B o e.2.2.1, B o e.2.2.2]):=E.v (hall 6 (by decide)) rfl;have aD:s 7=(B o b):=E.v (hall 7 (by decide)) rfl;have a3:s 8=(aa S):=E.v (hall 8 (by decide)) rfl;simp only[av,ap,ak,ay,az,aA,aB,aD,a3] at P;subst P;clear hall E av ap ak ay az aA aB aD a3
 obtain⟨q0,aZ,bm,T,L⟩:=hst;have ag:=bp.out bl.out;have be:∀i,i < j+1->gI i e≠hQ i e:=by
  intro i al;by_cases h:i < j
  ·exact hn.out i h
  have:i=j:=by omega
  subst this;rw[a1.out.1,a1.out.2];exact bl.out
 obtain⟨bq,ar⟩:=aY be (ax aK.out L);clear be L;go_wp2;go_roundw
 case rel=>exact⟨j+1,by omega,by go_num,bq,ar⟩
 case measure=>simp[intOf];omega
end
section
open Go.RowKit Go.Maps
open Go.RowKit
theorem es(n:Int)(w:ac):bB aj 60 #[B o n] w fun e Z=>e= .returned (aa (cJ n))/\w=Z:=by
 by_cases h1: -1000000<=n
 ·go_in
  go_wp2;go_ret;exact⟨by simp[cJ,h1],rfl⟩
 go_in;go_wp2;go_ret;exact⟨by congr 2;simp[cJ];omega,rfl⟩
theorem vQ(x y k:Int)(w:ac):bB aj 21 #[aq #[B o x, B o y, B o k]] w fun e Z=>e= .returned (aa (eg x y k))/\Below w.heap.size w Z:=by
 have i:=aV w (Y #[B o x, B o y, B o k] 53);by_cases a1:0<=k
 rotate_left
 ·go_in
  go_wp2;go_ret;exact⟨by first | (simp[eg, *];done) | (simp[eg, *];intros;omega) | (simp[eg, *];rw[e1];simp),i⟩
 by_cases c1:k<=3
 rotate_left
 ·go_in
  go_wp2;go_ret;exact⟨by first | (simp[eg, *];done) | (simp[eg, *];intros;omega) | (simp[eg, *];rw[e1];simp),i⟩
 by_cases c2:cJ x=S
 rotate_left
 ·have E:cJ x=Q:=by simpa using c2
  have g:=R E;go_in
  go_wp2_with fail
  refine(es x _).mono ?_;rintro e l ⟨rfl,rfl⟩;rw[g.out];go_wp2;go_ret;exact⟨by first | (simp[eg, *];done) | (simp[eg, *];intros;omega) | (simp[eg, *];rw[e1];simp),i⟩
 have g:=R c2;go_in
 go_wp2_with fail
 refine(es x _).mono ?_;rintro e l ⟨rfl,rfl⟩;rw[g.out]
 go_wp2_with fail
 refine(es y _).mono ?_;rintro e s ⟨rfl,rfl⟩;go_wp2;go_ret;exact⟨by first | (simp[eg, *];done) | (simp[eg, *];intros;omega) | (simp[eg, *];rw[e1];simp),i⟩
theorem vn(x y k:Int)(w:ac):bB aj 39 #[aq #[B o x, B o y, B o k]] w fun e Z=>e= .returned (aa (eg x y k))/\Below w.heap.size w Z:=by
 have i:=aV w (Y #[B o x, B o y, B o k] 53);by_cases a1:(au (0<=k) && au (k<=3))=S
 rotate_left
 ·have z:(au (0<=k) && au (k<=3))=Q:=by simpa using a1
  have g:=R z;go_in
  go_wp2_with fail
  refine(b3 k 0 3 _).mono ?_;rintro e l ⟨rfl,rfl⟩;rw[g.out];go_wp2;go_ret;exact⟨by first | (simp[eg,cJ, *];done) | (simp[eg,cJ, *];intros;omega) | (simp[eg,cJ, *];rw[e1];simp),i⟩
 have g:=R a1;by_cases c1:(au (-1000000<=x) && au (x<=1000000))=S
 rotate_left
 ·have A:(au (-1000000<=x) && au (x<=1000000))=Q:=by simpa using c1
  have r:=R A;go_in
  go_wp2_with fail
  refine(b3 k 0 3 _).mono ?_;rintro e l ⟨rfl,rfl⟩;rw[g.out]
  go_wp2_with fail
  refine(b3 x (-1000000) 1000000 _).mono ?_;rintro e s ⟨rfl,rfl⟩;rw[r.out];go_wp2;go_ret;exact⟨by first | (simp[eg,cJ, *];done) | (simp[eg,cJ, *];intros;omega) | (simp[eg,cJ, *];rw[e1];simp),i⟩
 have r:=R c1;go_in
 go_wp2_with fail
 refine(b3 k 0 3 _).mono ?_;rintro e l ⟨rfl,rfl⟩;rw[g.out]
 go_wp2_with fail
 refine(b3 x (-1000000) 1000000 _).mono ?_;rintro e s ⟨rfl,rfl⟩;rw[r.out]
 go_wp2_with fail
 refine(b3 y (-1000000) 1000000 _).mono ?_;rintro e G ⟨rfl,rfl⟩;go_wp2;go_ret;exact⟨by first | (simp[eg,cJ, *];done) | (simp[eg,cJ, *];intros;omega) | (simp[eg,cJ, *];rw[e1];simp),i⟩
open Go.RowKit
def cE(e f:Int):Bool:=cJ e && cJ f && au (e % 2=0) && au (f % 2=0)
def bf(m:aR):Bool:=dh m.1 m.2.1 m.2.2.1 m.2.2.2.1 && cE m.2.2.2.2.1 m.2.2.2.2.2
open Go.RowKit
open Go.RowKit
theorem pB{a b:Int}(h:ew a b=S):(a=1∨a= -1)/\b=0:=by simpa[ew] using h
theorem vY{a b c d:Int}(h:dh a b c d=S):(a=1/\b=0/\c=0/\d=1)∨(a= -1/\b=0/\c=0/\d=1)∨(a=1/\b=0/\c=0/\d= -1)∨(a= -1/\b=0/\c=0/\d= -1)∨
  (a=0/\b=1/\c=1/\d=0)∨(a=0/\b= -1/\c=1/\d=0)∨(a=0/\b=1/\c= -1/\d=0)∨(a=0/\b= -1/\c= -1/\d=0):=by
 simp only[dh,Bool.or_eq_true,cu] at h;rcases h with ⟨h1,ab⟩ | ⟨h1,ab⟩
 ·obtain⟨ag,rfl⟩:=pB h1
  obtain⟨az,rfl⟩:=pB ab;rcases ag with rfl | rfl <;> rcases az with rfl | rfl <;> simp
 obtain⟨ag,rfl⟩:=pB h1;obtain⟨az,rfl⟩:=pB ab;rcases ag with rfl | rfl <;> rcases az with rfl | rfl <;> simp
end
section
set_option maxRecDepth 100000
open Go.RowKit Go.Maps
theorem CO(j:Int): -1<=eL j/\eL j<=1:=by unfold eL;split <;> (try split) <;> omega
theorem CN(j:Int): -1<=eK j/\eK j<=1:=by unfold eK;split <;> (try split) <;> omega
theorem iK{w:ac}{g b j:Nat}{u:Value}(h:w.cell? ⟨b,j,F⟩=D u)(bC:g≠b)(x y z:Value):(((w.setCell ⟨g,0,F⟩ x).setCell ⟨g,1,F⟩ y).setCell ⟨g,2,F⟩ z).cell? ⟨b,j,F⟩=D u:=fN (fN (fN h bC) bC) bC
open Go.RowKit
theorem k4(n:Int)(w:ac)(h1: -8000000<=n)(ab:n<=8000000):bB aj 103 #[B o n] w fun e Z=>e= .returned (B o (n / 2))/\w=Z:=by
 go_in;go_wp2;go_ret;exact⟨rfl,rfl⟩
def fa(x y:Int):Int:=if y < 0 then 0 else if 0 < x then 1 else if 0 < y then 2 else 3
theorem Bo(l i bv bs cg r:Int)(w:ac)(aw: -8000000<=l)(ay:l<=8000000)(aA: -8000000<=i)(aE:i<=8000000)(ao: -8000000<=bv)(a2:bv<=8000000)(an: -8000000<=bs)(ar:bs<=8000000)(b1: -8000000<=cg)(aC:cg<=8000000)(aM: -8000000<=r)(av:r<=8000000)(a1:bs+r-2*i < 0):
  bB aj 58 #[bu l i,bu bv bs,bu cg r] w fun G Z=>G= .returned (dQ (l / 2) (i / 2) (fa (bv+cg-2*l) (bs+r-2*i)))/\Below w.heap.size w Z:=by
 have h1:b7.wrap (bv+cg)=bv+cg:=ca _ (by omega);have ab:b7.wrap (2*l)=2*l:=ca _ (by omega);have ag:b7.wrap (bv+cg-2*l)=bv+cg-2*l:=ca _ (by omega);have az:b7.wrap (bs+r)=bs+r:=ca _ (by omega);have bh:b7.wrap (2*i)=2*i:=ca _ (by omega);have bj:b7.wrap (bs+r-2*i)=bs+r-2*i:=ca _ (by omega);obtain⟨K,af⟩:=ai (fa (bv+cg-2*l) (bs+r-2*i));rw[<-af];have aJ:Hid (K=0):=R (by rw[af];unfold fa;rw[if_pos a1]);clear af;go_in;go_upto_region 1 with fail
 have d0:(((((w.alloc (Y #[B o l, B o i] 40)).alloc (Y #[B o bv, B o bs] 40)).alloc (Y #[B o cg, B o r] 40)).alloc (Y #[B o 0, B o 0, B o 0] 53)).drew).cell? ⟨w.heap.size,0,F⟩=D (B o l):=aB (aW (aW (aW (aQ w (Y #[B o l, B o i] 40)) _) _) _) 0;have d1:(((((w.alloc (Y #[B o l, B o i] 40)).alloc (Y #[B o bv, B o bs] 40)).alloc (Y #[B o cg, B o r] 40)).alloc (Y #[B o 0, B o 0, B o 0] 53)).drew).cell? ⟨w.heap.size,1,F⟩=D (B o i):=aB (aW (aW (aW (aQ w (Y #[B o l, B o i] 40)) _) _) _) 1;have E:=a7 d0 d1;clear d0 d1;go_cut [7] from 10 to 16 (fun aK aL=>aK= ad (D ⟨w.heap.size+1+1+1+1,0,F⟩)/\aL=(((((w.alloc (Y #[B o l, B o i] 40)).alloc (Y #[B o bv, B o bs] 40)).alloc (Y #[B o cg, B o r] 40)).alloc (Y #[B o 0, B o 0, B o 0] 53)).alloc (Y #[B o (l / 2), B o (i / 2), B o 0] 53)).drew)
 case first=>
  go_region_held3 (fun Z=>Z.cell? ⟨w.heap.size,0,F⟩=D (B o l)/\Z.cell? ⟨w.heap.size,1,F⟩=D (B o i))
   (first
    | with_reducible exact E
    | (exact E)
    | (go_split_ands;with_reducible exact⟨aD ‹_› _,aD ‹_› _⟩)
    | (go_split_ands;with_reducible exact⟨c7 ‹_› _,c7 ‹_› _⟩)
    | (exact⟨c7 E.1 _,c7 E.2 _⟩))
   (first
    | ((with_reducible refine(k4 l _ (by omega) (by omega)).mono ?_);rintro e wc ⟨rfl,rfl⟩)
    | ((with_reducible refine(k4 i _ (by omega) (by omega)).mono ?_);rintro e wc ⟨rfl,rfl⟩))
  all_goals (go_wp2_with fail;go_meet;exact⟨rfl,rfl⟩)
 case rest=>
 obtain⟨rfl,rfl⟩:=hcut;clear E
 go_wp2_with fail
 go_quiet (fail)
 go_wp2;refine cT (v:=dQ (l / 2) (i / 2) 0) (by simp[results,Tryz.results58,go_sem]) rfl ⟨by rw[aJ.out], ?_⟩;exact jg ((below_drewN (aN (aN (aN (aN (aN aX _) _) _) _) _) _).setCell (show w.heap.size<=w.heap.size+1+1+1+1 by omega) _) _ (by omega) _ _ _
theorem Bp(l i bv bs cg r:Int)(w:ac)(aw: -8000000<=l)(ay:l<=8000000)(aA: -8000000<=i)(aE:i<=8000000)(ao: -8000000<=bv)(a2:bv<=8000000)(an: -8000000<=bs)(ar:bs<=8000000)(b1: -8000000<=cg)(aC:cg<=8000000)(aM: -8000000<=r)(av:r<=8000000)(a1:¬bs+r-2*i < 0)(c1:0 < bv+cg-2*l):
  bB aj 58 #[bu l i,bu bv bs,bu cg r] w fun G Z=>G= .returned (dQ (l / 2) (i / 2) (fa (bv+cg-2*l) (bs+r-2*i)))/\Below w.heap.size w Z:=by
 have h1:b7.wrap (bv+cg)=bv+cg:=ca _ (by omega);have ab:b7.wrap (2*l)=2*l:=ca _ (by omega);have ag:b7.wrap (bv+cg-2*l)=bv+cg-2*l:=ca _ (by omega);have az:b7.wrap (bs+r)=bs+r:=ca _ (by omega);have bh:b7.wrap (2*i)=2*i:=ca _ (by omega);have bj:b7.wrap (bs+r-2*i)=bs+r-2*i:=ca _ (by omega);obtain⟨K,af⟩:=ai (fa (bv+cg-2*l) (bs+r-2*i));rw[<-af];have aJ:Hid (K=1):=R (by rw[af];unfold fa;rw[if_neg a1,if_pos c1]);clear af;go_in;go_upto_region 1 with fail
 have d0:(((((w.alloc (Y #[B o l, B o i] 40)).alloc (Y #[B o bv, B o bs] 40)).alloc (Y #[B o cg, B o r] 40)).alloc (Y #[B o 0, B o 0, B o 0] 53)).drew).cell? ⟨w.heap.size,0,F⟩=D (B o l):=aB (aW (aW (aW (aQ w (Y #[B o l, B o i] 40)) _) _) _) 0;have d1:(((((w.alloc (Y #[B o l, B o i] 40)).alloc (Y #[B o bv, B o bs] 40)).alloc (Y #[B o cg, B o r] 40)).alloc (Y #[B o 0, B o 0, B o 0] 53)).drew).cell? ⟨w.heap.size,1,F⟩=D (B o i):=aB (aW (aW (aW (aQ w (Y #[B o l, B o i] 40)) _) _) _) 1;have E:=a7 d0 d1;clear d0 d1;go_cut [7] from 10 to 16 (fun aK aL=>aK= ad (D ⟨w.heap.size+1+1+1+1,0,F⟩)/\aL=(((((w.alloc (Y #[B o l, B o i] 40)).alloc (Y #[B o bv, B o bs] 40)).alloc (Y #[B o cg, B o r] 40)).alloc (Y #[B o 0, B o 0, B o 0] 53)).alloc (Y #[B o (l / 2), B o (i / 2), B o 0] 53)).drew)
 case first=>
  go_region_held3 (fun Z=>Z.cell? ⟨w.heap.size,0,F⟩=D (B o l)/\Z.cell? ⟨w.heap.size,1,F⟩=D (B o i))
   (first
    | with_reducible exact E
    | (exact E)
    | (go_split_ands;with_reducible exact⟨aD ‹_› _,aD ‹_› _⟩)
    | (go_split_ands;with_reducible exact⟨c7 ‹_› _,c7 ‹_› _⟩)
    | (exact⟨c7 E.1 _,c7 E.2 _⟩))
   (first
    | ((with_reducible refine(k4 l _ (by omega) (by omega)).mono ?_);rintro e wc ⟨rfl,rfl⟩)
    | ((with_reducible refine(k4 i _ (by omega) (by omega)).mono ?_);rintro e wc ⟨rfl,rfl⟩))
  all_goals (go_wp2_with fail;go_meet;exact⟨rfl,rfl⟩)
 case rest=>
 obtain⟨rfl,rfl⟩:=hcut;clear E
 go_wp2_with fail
 go_quiet (fail)
 go_wp2;refine cT (v:=dQ (l / 2) (i / 2) 1) (by simp[results,Tryz.results58,go_sem]) rfl ⟨by rw[aJ.out], ?_⟩;exact jg ((below_drewN (aN (aN (aN (aN (aN aX _) _) _) _) _) _).setCell (show w.heap.size<=w.heap.size+1+1+1+1 by omega) _) _ (by omega) _ _ _
theorem Bq(l i bv bs cg r:Int)(w:ac)(aw: -8000000<=l)(ay:l<=8000000)(aA: -8000000<=i)(aE:i<=8000000)(ao: -8000000<=bv)(a2:bv<=8000000)(an: -8000000<=bs)(ar:bs<=8000000)(b1: -8000000<=cg)(aC:cg<=8000000)(aM: -8000000<=r)(av:r<=8000000)(a1:¬bs+r-2*i < 0)(c1:¬0 < bv+cg-2*l)(c2:0 < bs+r-2*i):
  bB aj 58 #[bu l i,bu bv bs,bu cg r] w fun G Z=>G= .returned (dQ (l / 2) (i / 2) (fa (bv+cg-2*l) (bs+r-2*i)))/\Below w.heap.size w Z:=by
 have h1:b7.wrap (bv+cg)=bv+cg:=ca _ (by omega);have ab:b7.wrap (2*l)=2*l:=ca _ (by omega);have ag:b7.wrap (bv+cg-2*l)=bv+cg-2*l:=ca _ (by omega);have az:b7.wrap (bs+r)=bs+r:=ca _ (by omega);have bh:b7.wrap (2*i)=2*i:=ca _ (by omega);have bj:b7.wrap (bs+r-2*i)=bs+r-2*i:=ca _ (by omega);obtain⟨K,af⟩:=ai (fa (bv+cg-2*l) (bs+r-2*i));rw[<-af];have aJ:Hid (K=2):=R (by rw[af];unfold fa;rw[if_neg a1,if_neg c1,if_pos c2]);clear af;go_in;go_upto_region 1 with fail
 have d0:(((((w.alloc (Y #[B o l, B o i] 40)).alloc (Y #[B o bv, B o bs] 40)).alloc (Y #[B o cg, B o r] 40)).alloc (Y #[B o 0, B o 0, B o 0] 53)).drew).cell? ⟨w.heap.size,0,F⟩=D (B o l):=aB (aW (aW (aW (aQ w (Y #[B o l, B o i] 40)) _) _) _) 0;have d1:(((((w.alloc (Y #[B o l, B o i] 40)).alloc (Y #[B o bv, B o bs] 40)).alloc (Y #[B o cg, B o r] 40)).alloc (Y #[B o 0, B o 0, B o 0] 53)).drew).cell? ⟨w.heap.size,1,F⟩=D (B o i):=aB (aW (aW (aW (aQ w (Y #[B o l, B o i] 40)) _) _) _) 1;have E:=a7 d0 d1;clear d0 d1;go_cut [7] from 10 to 16 (fun aK aL=>aK= ad (D ⟨w.heap.size+1+1+1+1,0,F⟩)/\aL=(((((w.alloc (Y #[B o l, B o i] 40)).alloc (Y #[B o bv, B o bs] 40)).alloc (Y #[B o cg, B o r] 40)).alloc (Y #[B o 0, B o 0, B o 0] 53)).alloc (Y #[B o (l / 2), B o (i / 2), B o 0] 53)).drew)
 case first=>
  go_region_held3 (fun Z=>Z.cell? ⟨w.heap.size,0,F⟩=D (B o l)/\Z.cell? ⟨w.heap.size,1,F⟩=D (B o i))
   (first
    | with_reducible exact E
    | (exact E)
    | (go_split_ands;with_reducible exact⟨aD ‹_› _,aD ‹_› _⟩)
    | (go_split_ands;with_reducible exact⟨c7 ‹_› _,c7 ‹_› _⟩)
    | (exact⟨c7 E.1 _,c7 E.2 _⟩))
   (first
    | ((with_reducible refine(k4 l _ (by omega) (by omega)).mono ?_);rintro e wc ⟨rfl,rfl⟩)
    | ((with_reducible refine(k4 i _ (by omega) (by omega)).mono ?_);rintro e wc ⟨rfl,rfl⟩))
  all_goals (go_wp2_with fail;go_meet;exact⟨rfl,rfl⟩)
 case rest=>
 obtain⟨rfl,rfl⟩:=hcut;clear E
 go_wp2_with fail
 go_quiet (fail)
 go_wp2;refine cT (v:=dQ (l / 2) (i / 2) 2) (by simp[results,Tryz.results58,go_sem]) rfl ⟨by rw[aJ.out], ?_⟩;exact jg ((below_drewN (aN (aN (aN (aN (aN aX _) _) _) _) _) _).setCell (show w.heap.size<=w.heap.size+1+1+1+1 by omega) _) _ (by omega) _ _ _
theorem Br(l i bv bs cg r:Int)(w:ac)(aw: -8000000<=l)(ay:l<=8000000)(aA: -8000000<=i)(aE:i<=8000000)(ao: -8000000<=bv)(a2:bv<=8000000)(an: -8000000<=bs)(ar:bs<=8000000)(b1: -8000000<=cg)(aC:cg<=8000000)(aM: -8000000<=r)(av:r<=8000000)(a1:¬bs+r-2*i < 0)(c1:¬0 < bv+cg-2*l)(c2:¬0 < bs+r-2*i):
  bB aj 58 #[bu l i,bu bv bs,bu cg r] w fun G Z=>G= .returned (dQ (l / 2) (i / 2) (fa (bv+cg-2*l) (bs+r-2*i)))/\Below w.heap.size w Z:=by
 have h1:b7.wrap (bv+cg)=bv+cg:=ca _ (by omega);have ab:b7.wrap (2*l)=2*l:=ca _ (by omega);have ag:b7.wrap (bv+cg-2*l)=bv+cg-2*l:=ca _ (by omega);have az:b7.wrap (bs+r)=bs+r:=ca _ (by omega);have bh:b7.wrap (2*i)=2*i:=ca _ (by omega);have bj:b7.wrap (bs+r-2*i)=bs+r-2*i:=ca _ (by omega);obtain⟨K,af⟩:=ai (fa (bv+cg-2*l) (bs+r-2*i));rw[<-af];have aJ:Hid (K=3):=R (by rw[af];unfold fa;rw[if_neg a1,if_neg c1,if_neg c2]);clear af;go_in;go_upto_region 1 with fail
 have d0:(((((w.alloc (Y #[B o l, B o i] 40)).alloc (Y #[B o bv, B o bs] 40)).alloc (Y #[B o cg, B o r] 40)).alloc (Y #[B o 0, B o 0, B o 0] 53)).drew).cell? ⟨w.heap.size,0,F⟩=D (B o l):=aB (aW (aW (aW (aQ w (Y #[B o l, B o i] 40)) _) _) _) 0;have d1:(((((w.alloc (Y #[B o l, B o i] 40)).alloc (Y #[B o bv, B o bs] 40)).alloc (Y #[B o cg, B o r] 40)).alloc (Y #[B o 0, B o 0, B o 0] 53)).drew).cell? ⟨w.heap.size,1,F⟩=D (B o i):=aB (aW (aW (aW (aQ w (Y #[B o l, B o i] 40)) _) _) _) 1;have E:=a7 d0 d1;clear d0 d1;go_cut [7] from 10 to 16 (fun aK aL=>aK= ad (D ⟨w.heap.size+1+1+1+1,0,F⟩)/\aL=(((((w.alloc (Y #[B o l, B o i] 40)).alloc (Y #[B o bv, B o bs] 40)).alloc (Y #[B o cg, B o r] 40)).alloc (Y #[B o 0, B o 0, B o 0] 53)).alloc (Y #[B o (l / 2), B o (i / 2), B o 0] 53)).drew)
 case first=>
  go_region_held3 (fun Z=>Z.cell? ⟨w.heap.size,0,F⟩=D (B o l)/\Z.cell? ⟨w.heap.size,1,F⟩=D (B o i))
   (first
    | with_reducible exact E
    | (exact E)
    | (go_split_ands;with_reducible exact⟨aD ‹_› _,aD ‹_› _⟩)
    | (go_split_ands;with_reducible exact⟨c7 ‹_› _,c7 ‹_› _⟩)
    | (exact⟨c7 E.1 _,c7 E.2 _⟩))
   (first
    | ((with_reducible refine(k4 l _ (by omega) (by omega)).mono ?_);rintro e wc ⟨rfl,rfl⟩)
    | ((with_reducible refine(k4 i _ (by omega) (by omega)).mono ?_);rintro e wc ⟨rfl,rfl⟩))
  all_goals (go_wp2_with fail;go_meet;exact⟨rfl,rfl⟩)
 case rest=>
 obtain⟨rfl,rfl⟩:=hcut;clear E
 go_wp2_with fail
 go_quiet (fail)
 go_wp2;refine cT (v:=dQ (l / 2) (i / 2) 3) (by simp[results,Tryz.results58,go_sem]) rfl ⟨by rw[aJ.out], ?_⟩;exact jg ((below_drewN (aN (aN (aN (aN (aN aX _) _) _) _) _) _).setCell (show w.heap.size<=w.heap.size+1+1+1+1 by omega) _) _ (by omega) _ _ _
theorem Bs(l i bv bs cg r:Int)(w:ac)(aw: -8000000<=l)(ay:l<=8000000)(aA: -8000000<=i)(aE:i<=8000000)(ao: -8000000<=bv)(a2:bv<=8000000)(an: -8000000<=bs)(ar:bs<=8000000)(b1: -8000000<=cg)(aC:cg<=8000000)(aM: -8000000<=r)(av:r<=8000000):
  bB aj 58 #[bu l i,bu bv bs,bu cg r] w fun G Z=>G= .returned (dQ (l / 2) (i / 2) (fa (bv+cg-2*l) (bs+r-2*i)))/\Below w.heap.size w Z:=by
 by_cases a1:bs+r-2*i < 0
 ·exact Bo l i bv bs cg r w aw ay aA aE ao a2 an ar b1 aC aM av a1
 by_cases c1:0 < bv+cg-2*l
 ·exact Bp l i bv bs cg r w aw ay aA aE ao a2 an ar b1 aC aM av a1 c1
 by_cases c2:0 < bs+r-2*i
 ·exact Bq l i bv bs cg r w aw ay aA aE ao a2 an ar b1 aC aM av a1 c1 c2
 ·exact Br l i bv bs cg r w aw ay aA aE ao a2 an ar b1 aC aM av a1 c1 c2
open Go.RowKit
theorem o0{x:Int}(k:Int)(aV: -1000000<=x)(aY:x<=1000000): -2000002<=bY x k/\bY x k<=2000002:=by have:=CN (k % 4);unfold bY;omega
theorem o1{x:Int}(k:Int)(aV: -1000000<=x)(aY:x<=1000000): -2000002<=bZ x k/\bZ x k<=2000002:=by have:=CO (k % 4);unfold bZ;omega
def jR(a b e x y:Int):Int:=a*x+b*y+e
def h8(a b c d e f x y k:Int):ah:=
  (jR a b e (2*x+1) (2*y+1) / 2,jR c d f (2*x+1) (2*y+1) / 2,
   fa (jR a b e (bY x k) (bZ y k)+jR a b e (bY x (k+1)) (bZ y (k+1))-2*jR a b e (2*x+1) (2*y+1))
     (jR c d f (bY x k) (bZ y k)+jR c d f (bY x (k+1)) (bZ y (k+1))-2*jR c d f (2*x+1) (2*y+1)))
theorem rz(a b c d e f x y k:Int)(w:ac)(cb:Steps w)(A:jy a b c d e f)(aV: -1000000<=x)(aY:x<=1000000)(bE: -1000000<=y)(bF:y<=1000000)(cN:0<=k)(cQ:k<=3):
  bB aj 19 #[aq #[B o a, B o b, B o c, B o d, B o e, B o f],dQ x y k] w fun G Z=>G= .returned (bK (h8 a b c d e f x y k))/\Below w.heap.size w Z:=by
 have bS:=o0 k aV aY;have bT:=o0 (k+1) aV aY;have bU:=o1 k bE bF;have bV:=o1 (k+1) bE bF;obtain⟨L,bw⟩:=ai (bY x k);obtain⟨P,bz⟩:=ai (bZ y k);obtain⟨N,bx⟩:=ai (bY x (k+1));obtain⟨ae,bA⟩:=ai (bZ y (k+1));rw[<-bw] at bS;rw[<-bx] at bT;rw[<-bz] at bU;rw[<-bA] at bV;obtain⟨bL,bO,bN,bP⟩:=df bw bz bx bA;clear bw bz bx bA;have cV:=ck (a:=a) (x:=2*x+1) (M:=2000002) A.ao A.a2 (by omega) (by omega);have cY:=ck (a:=b) (x:=2*y+1) (M:=2000002) A.b1 A.aC (by omega) (by omega);have c3:=ck (a:=c) (x:=2*x+1) (M:=2000002) A.c1 A.c2 (by omega) (by omega);have c6:=ck (a:=d) (x:=2*y+1) (M:=2000002) A.d1 A.d2 (by omega) (by omega);obtain⟨bR,bk⟩:=ai (a*(2*x+1)+b*(2*y+1)+e)
 obtain⟨bQ,bo⟩:=ai (c*(2*x+1)+d*(2*y+1)+f);have cW:=ck (a:=a) (x:=L) (M:=2000002) A.ao A.a2 (by omega) (by omega);have cZ:=ck (a:=b) (x:=P) (M:=2000002) A.b1 A.aC (by omega) (by omega);have c4:=ck (a:=c) (x:=L) (M:=2000002) A.c1 A.c2 (by omega) (by omega);have c8:=ck (a:=d) (x:=P) (M:=2000002) A.d1 A.d2 (by omega) (by omega);obtain⟨bH,bl⟩:=ai (a*L+b*P+e);obtain⟨bI,bp⟩:=ai (c*L+d*P+f);have cX:=ck (a:=a) (x:=N) (M:=2000002) A.ao A.a2 (by omega) (by omega);have c0:=ck (a:=b) (x:=ae) (M:=2000002) A.b1 A.aC (by omega) (by omega);have c5:=ck (a:=c) (x:=N) (M:=2000002) A.c1 A.c2 (by omega) (by omega);have c9:=ck (a:=d) (x:=ae) (M:=2000002) A.d1 A.d2 (by omega) (by omega);obtain⟨bt,bn⟩:=ai (a*N+b*ae+e)
 obtain⟨b4,bq⟩:=ai (c*N+d*ae+f);have cE:=A.ap;have cF:=A.ak;have cH:=A.f1;have cI:=A.f2;have p0: -8000000<=bR/\bR<=8000000:=by omega
 have q0: -8000000<=bQ/\bQ<=8000000:=by omega
 have cz: -8000000<=bH/\bH<=8000000:=by omega
 have aZ: -8000000<=bI/\bI<=8000000:=by omega
 have b9: -8000000<=bt/\bt<=8000000:=by omega
 have bm: -8000000<=b4/\b4<=8000000:=by omega
 have ch:Hid (∀w:ac,bB aj 56 #[aq #[B o a, B o b, B o c, B o d, B o e, B o f],bu (2*x+1) (2*y+1)] w fun G Z=>G= .returned (bu bR bQ)/\Below w.heap.size w Z):=R (fun w=>by
  have h:=nf a b c d e f (2*x+1) (2*y+1) w (by omega) (by omega) (by omega) (by omega) (by omega) (by omega);rw[<-bk,<-bo] at h;exact h)
 have ci:Hid (∀w:ac,bB aj 56 #[aq #[B o a, B o b, B o c, B o d, B o e, B o f],bu L P] w fun G Z=>G= .returned (bu bH bI)/\Below w.heap.size w Z):=R (fun w=>by
  have h:=nf a b c d e f L P w (by omega) (by omega) (by omega) (by omega) (by omega) (by omega);rw[<-bl,<-bp] at h;exact h)
 have cj:Hid (∀w:ac,bB aj 56 #[aq #[B o a, B o b, B o c, B o d, B o e, B o f],bu N ae] w fun G Z=>G= .returned (bu bt b4)/\Below w.heap.size w Z):=R (fun w=>by
  have h:=nf a b c d e f N ae w (by omega) (by omega) (by omega) (by omega) (by omega) (by omega);rw[<-bn,<-bq] at h;exact h)
 obtain⟨T,bi⟩:=ai (h8 a b c d e f x y k);rw[<-bi];have b8:(bR / 2,bQ / 2,fa (bH+bt-2*bR) (bI+b4-2*bQ))=T:=by
  rw[bi,bk,bl,bn,bo,bp,bq,bL.out,bN.out,bO.out,bP.out];rfl
 have cl:Hid (∀w:ac,bB aj 58 #[bu bR bQ,bu bH bI,bu bt b4] w fun G Z=>G= .returned (bK T)/\Below w.heap.size w Z):=R (fun w=>by
  rw[<-b8];exact Bs bR bQ bH bI bt b4 w p0.1 p0.2 q0.1 q0.2 cz.1 cz.2 aZ.1 aZ.2 b9.1 b9.2 bm.1 bm.2)
 clear b8 bi p0 cz b9 q0 aZ bm bk bl bn bo bp bq cE cF cH cI bS bT bU bV A cV cW cX cY cZ c0 c3 c4 c5 c6 c8 c9;go_in
 go_wp2_with fail
 refine(tb x y k _ (((cb.alloc _).alloc _).alloc _) aV aY bE bF cN cQ).mono ?_;rintro e J ⟨al,aO⟩;rw[<-bL.out,<-bO.out,<-bN.out,<-bP.out] at al;subst al;have aS:J.heap[w.heap.size]? =D (Y #[B o a, B o b, B o c, B o d, B o e, B o f] 64 (0,0)):=aG (aW (aW (dE (Y #[B o a, B o b, B o c, B o d, B o e, B o f] 64) (by first | rfl | (simp;done) | (simp;omega))) _) _) aO (by first | (simp;done) | (simp;omega));have aU:J.heap[w.heap.size+1]? =D (Y #[B o x, B o y, B o k] 53 (0,0)):=aG (aW (dE (Y #[B o x, B o y, B o k] 53) (by first | rfl | (simp;done) | (simp;omega))) _) aO (by first | (simp;done) | (simp;omega));have aT:J.heap[w.heap.size+1+1]? =D (Y #[B o 0, B o 0, B o 0] 53 (0,0)):=aG (dE (Y #[B o 0, B o 0, B o 0] 53) (by first | rfl | (simp;done) | (simp;omega))) aO (by first | (simp;done) | (simp;omega))
 have cd:Below w.heap.size w J:=ax (aN (aN (aN aX _) _) _) aO;have cK:=(((cb.alloc _).alloc _).alloc _).below aO;clear aO;obtain⟨a0,a3,a4,a5,a8,a9⟩:=cx aS;have bg:=br aS;have bD:=am aS;obtain⟨ct,cv,cw⟩:=dl aU;have cC:=br aU;have db:=am aU;obtain⟨co,cq,cr⟩:=dl aT;have cA:=br aT;have da:=am aT;have aR:w.heap.size+1+1≠J.heap.size:=by omega
 go_wp2_with fail
 have bf:(((J.alloc (Y #[B o (2*x+1), B o (2*y+1), B o L, B o P, B o N, B o ae] 117))).drew).heap[w.heap.size]? =D (Y #[B o a, B o b, B o c, B o d, B o e, B o f] 64 (0,0)):=(aW aS _);have cR:(((J.alloc (Y #[B o (2*x+1), B o (2*y+1), B o L, B o P, B o N, B o ae] 117))).drew).heap[w.heap.size+1]? =D (Y #[B o x, B o y, B o k] 53 (0,0)):=(aW aU _);have ce:(((J.alloc (Y #[B o (2*x+1), B o (2*y+1), B o L, B o P, B o N, B o ae] 117))).drew).heap[w.heap.size+1+1]? =D (Y #[B o 0, B o 0, B o 0] 53 (0,0)):=(aW aT _);have be:(((J.alloc (Y #[B o (2*x+1), B o (2*y+1), B o L, B o P, B o N, B o ae] 117))).drew).heap[J.heap.size]? =D (Y #[B o (2*x+1), B o (2*y+1), B o L, B o P, B o N, B o ae] 117 (0,0)):=(dE (Y #[B o (2*x+1), B o (2*y+1), B o L, B o P, B o N, B o ae] 117) (by first | rfl | (simp;done) | (simp;omega)))
 have cM:Below w.heap.size w (((J.alloc (Y #[B o (2*x+1), B o (2*y+1), B o L, B o P, B o N, B o ae] 117))).drew):=((aN cd _)).drew;have cL:Steps (((J.alloc (Y #[B o (2*x+1), B o (2*y+1), B o L, B o P, B o N, B o ae] 117))).drew):=((cK.alloc _).below aX.drew);clear a0 a3 a4 a5 a8 a9 bg bD ct cv cw cC db co cq cr cA da aS aU aT cd;obtain⟨a0,a3,a4,a5,a8,a9⟩:=cx bf;have bg:=br bf;have bD:=am bf;obtain⟨bW,bX,b2,b3,b5,b6⟩:=cx be;have cy:=br be;have s_c:=am be;have E:=a7 a0 (a7 a3 (a7 a4 (a7 a5 (a7 a8 (a7 a9 (a7 bW (a7 bX (a7 b2 (a7 b3 (a7 b5 (a7 b6 cM)))))))))))
 clear a0 a3 a4 a5 a8 a9 bW bX b2 b3 b5 b6 bg bD cy s_c;have s:=ce;have aP:w.heap.size+1+1≠w.heap.size:=by omega
 have cJ:w.heap.size<=w.heap.size+1+1:=by omega
 clear bf cR be ce cL
 go_region_held3 (fun Z=>Z.cell? ⟨w.heap.size,0,F⟩=D (B o a)/\Z.cell? ⟨w.heap.size,1,F⟩=D (B o b)/\Z.cell? ⟨w.heap.size,2,F⟩=D (B o c)/\Z.cell? ⟨w.heap.size,3,F⟩=D (B o d)/\Z.cell? ⟨w.heap.size,4,F⟩=D (B o e)/\Z.cell? ⟨w.heap.size,5,F⟩=D (B o f)/\Z.cell? ⟨J.heap.size,0,F⟩=D (B o (2*x+1))/\Z.cell? ⟨J.heap.size,1,F⟩=D (B o (2*y+1))/\Z.cell? ⟨J.heap.size,2,F⟩=D (B o L)/\Z.cell? ⟨J.heap.size,3,F⟩=D (B o P)/\Z.cell? ⟨J.heap.size,4,F⟩=D (B o N)/\Z.cell? ⟨J.heap.size,5,F⟩=D (B o ae)/\Below w.heap.size w Z)
  (first
   | with_reducible exact E
   | (go_split_ands;with_reducible exact⟨iK ‹_› aP _ _ _,iK ‹_› aP _ _ _,iK ‹_› aP _ _ _,iK ‹_› aP _ _ _,iK ‹_› aP _ _ _,iK ‹_› aP _ _ _,iK ‹_› aR _ _ _,iK ‹_› aR _ _ _,iK ‹_› aR _ _ _,iK ‹_› aR _ _ _,iK ‹_› aR _ _ _,iK ‹_› aR _ _ _,jg ‹_› _ cJ _ _ _⟩)
   | (go_split_ands;with_reducible exact⟨V ‹_› I,V ‹_› I,V ‹_› I,V ‹_› I,V ‹_› I,V ‹_› I,V ‹_› I,V ‹_› I,V ‹_› I,V ‹_› I,V ‹_› I,V ‹_› I,ax ‹_› I⟩))
  (first
   | ((with_reducible refine(ch.out _).mono ?_);rintro G wc ⟨al,I⟩;subst al;have s:=aG s I (am s);have aF:=aB s 0;have aH:=aB s 1;have aI:=aB s 2;simp only[cP,cU,cO] at aF aH aI;have bG:=br s;have bJ:=am s)
   | ((with_reducible refine(ci.out _).mono ?_);rintro G wc ⟨al,I⟩;subst al;have s:=aG s I (am s);have aF:=aB s 0;have aH:=aB s 1;have aI:=aB s 2;simp only[cP,cU,cO] at aF aH aI;have bG:=br s;have bJ:=am s)
   | ((with_reducible refine(cj.out _).mono ?_);rintro G wc ⟨al,I⟩;subst al;have s:=aG s I (am s);have aF:=aB s 0;have aH:=aB s 1;have aI:=aB s 2;simp only[cP,cU,cO] at aF aH aI;have bG:=br s;have bJ:=am s)
   | ((with_reducible refine(cl.out _).mono ?_);rintro G wc ⟨al,I⟩;subst al;have s:=aG s I (am s);have aF:=aB s 0;have aH:=aB s 1;have aI:=aB s 2;simp only[cP,cU,cO] at aF aH aI;have bG:=br s;have bJ:=am s))
 rename_i cD
 obtain⟨_,_,_,_,_,_,_,_,_,_,_,_,cG⟩:=cD;go_wp2;exact cT (v:=bK T) (by simp[results,Tryz.results19,go_sem,aF,aH,aI]) rfl ⟨rfl,cG⟩
end
end Go.Proofs.YteaeipgfjmnecaaGreatDoor

/- Lemmas; each says its own conditions. -/
import Derived.Sort.MapsRangeIn
import Derived.Laws.AppendOwnNone
import Derived.Test.YteaeipgfjmnecaaGreatDoorK06
import Derived.ArgAppend
open Array renaming getElem?_eq_some_iff->hb,replicate->eA
open Bool renaming and_eq_true->cu,false->Q,not_eq_true->qa,or_eq_true->gJ,true->S
open Classical renaming propDecidable->ic
open Decidable renaming decide->au
open Go renaming Value->ae,World->ac,heap_alloc_new->aQ,undef->U
open Go.ChangeMaps renaming modify_eq_set->wl
open Go.Code renaming region->j1
open Go.DataW.held renaming inj->qc
open Go.Instr renaming lookup->e2,mapEntry->ln,mapUpdate->DF
open Go.MapKept renaming run_getObj_map->mu,run_setObj_map->qe
open Go.Maps renaming has->oC
open Go.Region renaming waitsFor->eB
open Go.Result renaming andThen->mv
open Go.Result.ok renaming inj->kJ
open Go.RowKit.Below renaming heap_setCell->sf
open Go.WideElems renaming set_self->wo
open Go.World renaming block_lt_of_cell?->iS,ownsRow_nil->gl
open Go.IntKind renaming i64->o
open List renaming all_eq_true->dM,any_eq_true->oE,contains_iff_mem->j3,flatMap_cons->mx,getD_eq_getElem?_getD->cf,getElem?_eq_getElem->bb,getElem?_eq_some_iff->bM,getElem?_of_mem->fz,getElem?_take->iT,getElem_idxOf->nJ,idxOf_lt_length_of_mem->gK,length_eq_zero_iff->gm,mem_append->js,mem_append_right->wA,mem_cons->dC,mem_flatMap->hj,mem_of_getElem?->cH,mem_range->fl,mem_singleton->iy,not_mem_nil->DG,range->c4,replicate->f0,take_add_one->hT,take_of_length_le->hU
open Nat renaming add_assoc->qs,le_trans->ec,lt_of_lt_of_le->ju,lt_or_ge->oI,mul_comm->my,succ_mul->sr
open Go.Obj renaming cells->Y
open Option renaming getD_some->st,none->F,some->D
open Option.some renaming inj->cn
open Go.Proofs.Tryz renaming prog->aj
open Go.Value renaming agg->aq,bool->aa,int->B,pointer->ad,slice->O
namespace Go.Proofs.YteaeipgfjmnecaaGreatDoor
set_option linter.unusedSimpArgs false
set_option linter.unusedVariables false
set_option maxHeartbeats 12800000
section
open Go.RowKit Go.Maps
structure KD(g:Type) where
 K:TypeId
 enc:g->ae
 ok:g->Prop
 law:Keyed aj K
 key:∀a,ok a->∃l,keyOf aj K (enc a)=D l
 inj:∀a b,enc a=enc b->a=b
def fU.cK{g:Type}(k:fU g):KD g:=⟨k.K,k.enc,k.ok,k.law,k.key,k.inj⟩
structure ke(g G:Type) extends KD g where
 T:TypeId
 E:TypeId
 val:G->ae
 z:G
 ht:Tryz.prog.underlying T=D (.map K E)
 aI:∀w,(zeroValue E).run aj w= .ok (val z) w
abbrev iQ(v:ae):Option (DataW ae×List MemPlace):=D (.held v, [])
def kQ{g H:Type}(k:KD g)(i:DataW H)(L:g->Prop):Prop:=
 (∀a l,k.ok a->keyOf aj k.K (k.enc a)=D l->(oC i l=S↔L a))/\∀l,oC i l=S->∃a,k.ok a/\keyOf aj k.K (k.enc a)=D l
section
variable {g G:Type}
structure oN(k:ke g G)(i:DataW ae)(f:g->Option G):Prop where
 has:∀a l,k.ok a->keyOf aj k.K (k.enc a)=D l->oC i l=(f a).isSome
 at_:∀a l v,k.ok a->keyOf aj k.K (k.enc a)=D l->f a=D v->∀zd,i.atKey l zd= .held (k.val v)
 no:∀a l,k.ok a->keyOf aj k.K (k.enc a)=D l->f a=F->∀zd,i.atKey l zd=zd
 all:∀l,oC i l=S->∃a,k.ok a/\keyOf aj k.K (k.enc a)=D l
theorem oN.keys{k:ke g G}{i:DataW ae}{f:g->Option G}(h:oN k i f):kQ k.toKD i (fun a=>(f a).isSome=S):=
 ⟨fun a l A av=>by rw[h.has a l A av],h.all⟩
def cY(k:ke g G)(w:ac)(b n:Nat)(f:g->Option G):Prop:=
 ∃i:DataW ae,w.ownsMap aj k.K iQ b n i/\oN k i f/\
  ∃J:List g,J.Nodup/\(∀a,(f a).isSome=S↔a ∈ J)/\(∀a ∈ J,k.ok a)/\Maps.size i=J.length
variable {k:ke g G} {w Z:ac} {b n:Nat} {f:g->Option G}
theorem cY.made(k:ke g G)(w:ac):cY k (w.alloc (.map #[] 0)) w.heap.size 0 (fun _=>F):=
 ⟨.map [],World.ownsMap_made _ _ _ _,⟨fun a l _ _=>rfl,fun a l v _ _ h=>by(cases h),fun a l _ _ _ zd=>rfl,fun l h=>by(cases h)⟩, [],List.nodup_nil,by simp,by simp,rfl⟩
theorem cY.heap(h:cY k w b n f)(am:Z.heap[b]? =w.heap[b]?):cY k Z b n f:=by
 obtain⟨i,⟨aJ,c,h1,ab⟩,ag⟩:=h;exact⟨i,⟨aJ,c,am.trans h1,ab⟩,ag⟩
theorem cY.lt(h:cY k w b n f):b < w.heap.size:=by obtain⟨i,h1,_⟩:=h;exact h1.lt
theorem cY.below(h:cY k w b n f){aC:Nat}(am:Below aC w Z)(aK:b < aC):cY k Z b n f:=h.heap (am.block b aK)
theorem cY.stay(h:cY k w b n f)(am:Below w.heap.size w Z):cY k Z b n f:=h.below am h.lt
theorem cY.mono(h:cY k w b n f){aG:Nat}(hn:n<=aG):cY k w b aG f:=by obtain⟨i,h1,ab⟩:=h;exact⟨i,h1.mono hn,ab⟩
theorem cY.alloc(h:cY k w b n f)(af:Obj):cY k (w.alloc af) b n f:=h.stay (aV w af)
theorem cY.drew(h:cY k w b n f):cY k w.drew b n f:=h
theorem cY.grown(h:cY k w b n f){r:Option Nat}(aM:w.grownBy Z r)(aP:D b≠r):cY k Z b n f:=h.heap (aM.block b h.lt aP)
theorem cY.look(h:cY k w b n f){a:g}(A:k.ok a):(e2 k.T (.map (D b)) (k.enc a) S).run aj w= .ok (.tuple #[k.val ((f a).getD k.z), .bool (f a).isSome]) w:=by
 obtain⟨i,h1,ab,_⟩:=h;obtain⟨l,av⟩:=k.key a A;obtain⟨v,ps,ay,aA⟩:=h1.look_ok k.law k.ht (k.aI w) (zd:= .held (k.val k.z)) (zp:= []) rfl av;have ah:DataW.held v=i.atKey l (.held (k.val k.z)):=(Prod.mk.inj (cn aA)).1;rw[ay,ab.has a l A av]
 cases hf:f a with
 | none=>
  rw[ab.no a l A av hf] at ah;have ai:v=_:=qc ah;rw[ai];rfl
 | some u=>
  rw[ab.at_ a l u A av hf] at ah;have ai:v=_:=qc ah;rw[ai];rfl
theorem cY.gZ(h:cY k w b n f){a:g}(A:k.ok a):(e2 k.T (.map (D b)) (k.enc a) Q).run aj w= .ok (k.val ((f a).getD k.z)) w:=by
 obtain⟨i,h1,ab,_⟩:=h;obtain⟨l,av⟩:=k.key a A;obtain⟨v,ps,ay,aA⟩:=h1.lookup k.law k.ht (k.aI w) (zd:= .held (k.val k.z)) (zp:= []) rfl av;have ah:DataW.held v=i.atKey l (.held (k.val k.z)):=(Prod.mk.inj (cn aA)).1;rw[ay]
 cases hf:f a with
 | none=>
  rw[ab.no a l A av hf] at ah;have ai:v=_:=qc ah;rw[ai];rfl
 | some u=>
  rw[ab.at_ a l u A av hf] at ah;have ai:v=_:=qc ah;rw[ai];rfl
def it[DecidableEq g](f:g->Option G)(a:g)(v:G):g->Option G:=fun x=>if x=a then D v else f x
theorem iu[DecidableEq g](f:g->Option G)(a:g)(v:G):it f a v a=D v:=if_pos rfl
theorem hN[DecidableEq g](f:g->Option G){a x:g}(v:G)(h:x≠a):it f a v x=f x:=if_neg h
theorem cY.pL[DecidableEq g]{i:DataW ae}{l:Lit}{a:g}{v:G}(A:k.ok a)(av:keyOf aj k.K (k.enc a)=D l)(h:w.ownsMap aj k.K iQ b n i)(ab:oN k i f)
  (ag:∃J:List g,J.Nodup/\(∀a,(f a).isSome=S↔a ∈ J)/\(∀a ∈ J,k.ok a)/\Maps.size i=J.length)
  {m:Nat} (aR:Z.ownsMap aj k.K iQ b m (i.put l (.held (k.val v)))):cY k Z b m (it f a v):=by
 have ht:=h.tidy k.law;have aD:=k.law.key av;have ax:∀x M,k.ok x->keyOf aj k.K (k.enc x)=D M->x≠a->M≠l:=fun x M s N I e=>I (k.inj _ _ (k.law.inj (e▸N) av));refine⟨_,aR,⟨?_, ?_, ?_, ?_⟩, ?_⟩
 ·intro x M s N
  by_cases I:x=a
  ·subst I
   rw[av] at N;cases N
   rw[iu,has_put_same ht.isMap aD];rfl
  rw[hN _ _ I,has_put_other (ax x M s N I)];exact ab.has x M s N
 ·intro x M u s N an zd
  by_cases I:x=a
  ·subst I
   rw[av] at N;cases N
   rw[iu] at an;cases an
   exact atKey_put_same ht.isMap aD _ _
  rw[hN _ _ I] at an;rw[atKey_put_other (ax x M s N I)];exact ab.at_ x M u s N an zd
 ·intro x M s N hfn zd
  by_cases I:x=a
  ·subst I
   rw[iu] at hfn;cases hfn
  rw[hN _ _ I] at hfn;rw[atKey_put_other (ax x M s N I)];exact ab.no x M s N hfn zd
 ·intro M s
  by_cases e:M=l
  ·exact⟨a,A,e▸av⟩
  rw[has_put_other e] at s;exact ab.all M s
 obtain⟨J,ao,al,ar,aw⟩:=ag;have V:=size_put (k:=l) ht (.held (k.val v));rw[ab.has a l A av] at V;by_cases hf:(f a).isSome=S
 ·rw[if_pos hf] at V
  refine⟨J,ao,fun x=> ?_,ar,by rw[V,aw]⟩;by_cases I:x=a
  ·subst I
   rw[iu];exact⟨fun _=>(al _).1 hf,fun _=>rfl⟩
  rw[hN _ _ I];exact al x
 rw[if_neg hf] at V;have aO:a ∉ J:=fun h=>hf ((al a).2 h);refine⟨a::J,List.nodup_cons.2 ⟨aO,ao⟩,fun x=> ?_, ?_,by rw[V,aw];rfl⟩
 ·by_cases I:x=a
  ·subst I
   rw[iu];simp
  rw[hN _ _ I,al x];simp[I]
 intro x s;rcases dC.1 s with rfl | s
 ·exact A
 ·exact ar x s
theorem cY.put[DecidableEq g](h:cY k w b n f)(hn:n < maxLen){a:g}(A:k.ok a)(v:G):
  ∃Z,(DF k.T (.map (D b)) (k.enc a) (k.val v)).run aj w= .ok () Z/\cY k Z b (n+1) (it f a v)/\w.grownBy Z (D b):=by
 obtain⟨i,h1,ab,ag⟩:=h;obtain⟨l,av⟩:=k.key a A;obtain⟨Z,ap,ak,aH⟩:=h1.update k.law k.ht hn av (val:=k.val v) (d:= .held (k.val v)) (ps:= []) rfl;exact⟨Z,ap,cY.pL A av h1 ab ag ak,aH⟩
theorem cY.len(h:cY k w b n f):∃J:List g,J.Nodup/\(∀a,(f a).isSome=S↔a ∈ J)/\(∀a ∈ J,k.ok a)/\∀aB,(Builtin.len_ #[k.T] aB #[.map (D b)]).run aj w= .ok (.int o J.length) w:=by
 obtain⟨i,h1,ab,J,ao,al,ar,aw⟩:=h;exact⟨J,ao,al,ar,fun aB=>by rw[h1.len k.ht aB,aw]⟩
end
section
variable {g H:Type} {k:KD g} {i:DataW H} {L:g->Prop} {left:Lit->Bool} {aE:List g}
structure gq(k:KD g)(i:DataW H)(L:g->Prop)(left:Lit->Bool)(aE:List g):Prop where
 nodup:aE.Nodup
 ok:∀a ∈ aE,k.ok a/\L a
 left:∀a l,k.ok a->keyOf aj k.K (k.enc a)=D l->(left l=S↔L a/\a ∉ aE)
theorem gq.start(h:kQ k i L):gq k i L (oC i) []:=⟨List.nodup_nil,by simp,fun a l A av=>by rw[h.1 a l A av];simp⟩
theorem gq.bl(h:gq k i L left aE)(aN:kQ k i L){x:ae}{P:Lit}{y:DataW H}(s:keyOf aj k.K x=D P)(av:left P=S)(aL:∀zd,i.atKey P zd=y):∃a,x=k.enc a/\k.ok a/\L a/\a ∉ aE/\keyOf aj k.K (k.enc a)=D P:=by
 obtain⟨a,A,R⟩:=aN.2 P (has_true_of_atKey aL);obtain⟨h1,ab⟩:=(h.left a P A R).1 av;exact⟨a,k.law.inj s R,A,h1,ab,R⟩
theorem gq.step(h:gq k i L left aE){a:g}{P:Lit}(A:k.ok a)(V:L a)(hn:a ∉ aE)(R:keyOf aj k.K (k.enc a)=D P):gq k i L (fun z=>left z && !z.sameKey P) (aE++ [a]):=by
 refine⟨List.nodup_append.2 ⟨h.nodup,by simp,fun x s y aF=>by simp at aF;subst aF;exact fun e=>hn (e▸s)⟩, ?_, ?_⟩
 ·intro x s
  rcases js.1 s with s | s
  ·exact h.ok x s
  simp at s;subst s;exact⟨A,V⟩
 intro x l s av;have h1:=h.left x l s av;have ab:(l.sameKey P=S)↔x=a:=by
  rw[WideAt.sameKey_iff (k.law.key R)];constructor
  ·intro e
   exact k.inj _ _ (k.law.inj av (e▸R))
  rintro rfl;rw[av] at R;exact cn R
 rw[cu,Bool.not_eq_true',h1,js,iy];have ag:l.sameKey P=Q↔¬x=a:=by rw[<-ab];simp
 rw[ag];constructor
 ·rintro⟨⟨az,h5⟩,h6⟩
  exact⟨az,fun e=>e.elim h5 h6⟩
 rintro⟨az,h5⟩;exact⟨⟨az,fun e=>h5 (.inl e)⟩,fun e=>h5 (.inr e)⟩
theorem gq.done(h:gq k i L left aE)(av:∀P,left P=Q){a:g}(A:k.ok a)(V:L a):a ∈ aE:=by
 obtain⟨l,R⟩:=k.key a A;apply Classical.byContradiction
 intro hn;have:=(h.left a l A R).2 ⟨V,hn⟩;rw[av] at this;cases this
end
end
section
set_option maxRecDepth 100000
open Go.RowKit
section
variable {w:ac}
theorem mE{T E:TypeId}{z:ae}{aL bytes:Nat}(bi:Tryz.prog.underlying T=D (.slice E))(aW:(Tryz.prog.info? E).map (fun i=>(i.zero,i.size,i.bytes))=D (D z,aL,bytes))
  (a4:z.cells.size=aL) (hsz:0 < aL)
  {ops:Array Oper} {rest:List Oper} {af:Oper} {a:Act} {aD:Exit->Act->ac->Prop} (aG:af.guard=F) (s x:Operand)
  (aI:af.op= .call {callee:= .builtin .append,args:=#[s,x],argTypes:=#[T,T]})
  (aJ:a.eval s= O F 0 0) (A:Option Addr) (n c:Nat) (g:List ae) (M:a.eval x= O A n c) (hA:A=F->c=0) (G:Rd w aL A n g) (h1:∀u ∈ g,u.oneCell'=S) (hn:n*bytes<=140737488351232) (ba:n<=140737488351232)
  (h:∀a8 Z,Z.ownsRow w.heap.size E aL a8 n g->Below w.heap.size w Z->wpList aj ops aD rest (a.put af.dst a8) Z):
  wpList aj ops aD (af::rest) a w:=by
 obtain⟨aP,al,a0,a1,a3⟩:=info_parts aW
 cases A with
 | none=>
  have L:n=0:=by
   rcases Nat.eq_zero_or_pos n with L | L
   ·exact L
   obtain⟨b,r,e,_⟩:=G.2 L;cases e
  subst L;have hc:=hA rfl;subst hc;have aZ:g= []:=gm.1 (by simpa using G.1);subst aZ;exact wpList_append_own_none aG s x T aI w.heap.size E aP aL bi al (O F 0 0) 0 [] aJ (gl _ _ _ _) M (h _ _ (gl _ _ _ _) aX)
 | some aV=>
  refine wpList_append_own _ aG s x T aI w.heap.size E aP z aL bytes bi al a0 a1 a3 a4 hsz (O F 0 0) 0 [] aJ (gl _ _ _ _) aV n c g M G.1 ?_ h1 (by simp only[maxLen];omega) (by rw[Nat.zero_add];omega) ce ?_
  ·intro j u I
   rcases Nat.eq_zero_or_pos n with h0 | h0
   ·subst h0
    have:g= []:=gm.1 (by simpa using G.1);subst this;simp at I
   obtain⟨b,r,e,_,hc⟩:=G.2 h0;injection e with e
   subst e;rw[fW];exact hc j u I
  intro a8 Z ab ag _;refine h a8 Z (by simpa using ab) (aX.grown ag ce (fun k ai=>by cases ai))
end
theorem tc:(Tryz.prog.info? 129).map (fun i=>(i.zero,i.size,i.bytes))=D (D (aq #[B o 0, B o 0, B o 0, B o 0, B o 0]),5,40):=by kernel_rfl
theorem we(a5:List Int):∀u ∈ bF a5,u.oneCell'=S:=fun u I=>by obtain⟨z,_,rfl⟩:=List.mem_map.1 I;rfl
theorem sN(cs:List bw):∀u ∈ cr cs,u.oneCell'=S:=by
 intro u I;simp only[cr,hj,dC,DG,or_false] at I;obtain⟨c,_,h⟩:=I;rcases h with rfl | rfl | rfl | rfl | rfl <;> rfl
theorem Ca(A ax:Option Addr)(n m c d:Nat)(g K:List ah)(w:ac)(M:Rd w 3 A n (bn g))(ap:Rd w 3 ax m (bn K))(hn:n<=9223372036854775807)(L:m<=9223372036854775807):
  Calls aj 42 #[O A n c, O ax m d] w fun e Z=>e= .returned (aa (au (g=K)))/\Below w.heap.size w Z:=by
 have an:g.length=n:=by have:=M.1;rw[iw] at this;omega
 have ar:K.length=m:=by have:=ap.1;rw[iw] at this;omega
 have aw:∀{w:ac} {A:Option Addr} {n k:Nat} {l:List ah},Rd w 3 A n (bn l)->l.length=n->k < n->∃b r t,A=D ⟨b,r,F⟩/\l[k]? =D t/\w.cell? ⟨b,r+k*3,F⟩=D (B o t.1)/\w.cell? ⟨b,r+k*3+1,F⟩=D (B o t.2.1)/\w.cell? ⟨b,r+k*3+2,F⟩=D (B o t.2.2):=by
  intro w A n k l G av ai;obtain⟨b,r,e,_,hc⟩:=G.2 (by omega);have P:k < l.length:=by omega
  refine⟨b,r,l[k],e,bb P, ?_, ?_, ?_⟩;·exact hc (k*3) _ (by rw[my];exact(ia l k 0 _ (bb P) (by decide)).trans rfl)
  ·exact hc (k*3+1) _ (by rw[my];exact(ia l k 1 _ (bb P) (by decide)).trans rfl)
  ·exact hc (k*3+2) _ (by rw[my];exact(ia l k 2 _ (bb P) (by decide)).trans rfl)
 by_cases hnm:n=m
 ·subst hnm
  obtain⟨ay,aA,aT,aU⟩:=df an ar M ap;clear an ar M ap;go_in;go_wp2;go_loopw [5] (fun i wr=>∃k:Nat,k<=n/\i= B o k/\Hid (g.take k=K.take k)/\Below w.heap.size w wr) (fun i _=>n-(intOf i).toNat)
  case atStart=>exact⟨0,Nat.zero_le _,rfl,R rfl,aX⟩
  obtain⟨k,ai,rfl,aE,N⟩:=hrel;by_cases aH:k < n
  ·obtain⟨b1,bd,x,hA,aN,bf,bg,bh⟩:=aw (aT.out.below N) ay.out aH
   obtain⟨aC,be,y,aK,aO,bj,bk,bl⟩:=aw (aU.out.below N) aA.out aH;obtain⟨az,aB⟩:=aY aN aO;have a9:(k:Int) < (n:Int):=by omega
   clear aN aO;subst hA;subst aK;have ak:=jJ x.1 x.2.1 x.2.2 y.1 y.2.1 y.2.2;have am:(!(db [(x.1,y.1),(x.2.1,y.2.1),(x.2.2,y.2.2)]))= !au (x=y):=by
    obtain⟨ao,a2,a7⟩:=x;obtain⟨b1,aC,aM⟩:=y
    congr 1
    rw[Bool.eq_iff_iff];simp[db]
   rw[am] at ak;have a6:=R am;clear am;by_cases J:x=y
   ·have V:(!au (x=y))=Q:=by simp[J]
    rw[V] at ak;go_wp2
    go_quiet (fail)
    go_wp2;go_roundw
    case rel=>exact⟨k+1,by omega,by go_num,R (by rw[hT,hT,az.out,aB.out,aE.out,J]),below_drewN N _⟩
    case measure=>simp[intOf];omega
   have V:(!au (x=y))=S:=by simp[J]
   rw[V] at ak;go_wp2
   go_quiet (fail)
   go_wp2;go_ret;refine⟨cW ?_,below_drewN N _⟩;have:¬g=K:=by
    rintro rfl;have h1:=az.out.symm.trans aB.out;injection h1 with h1
    exact J h1
   simp[this]
  have aF:g=K:=by
   have h1:=aE.out;rw[hU (by rw[ay.out];omega),hU (by rw[aA.out];omega)] at h1;exact h1
  have aR:=R aF;clear aF;go_wp2;go_ret;exact⟨cW (by simp[aR.out]),N⟩
 have bc:((n:Int) !=(m:Int))=S:=by simp;omega
 have J:¬g=K:=by rintro rfl;omega
 have aS:=R J;clear an ar hnm J aw;go_in;go_wp2;go_ret;exact⟨cW (by simp[aS.out]),aX⟩
end
section
open Go.RowKit Go.Maps
structure qB(G:Nat)(w:ac)(v:ae)(q:List Nat):Prop where
 ex:∃A c,v= O A q.length c/\q.length<=c/\c<=maxLen/\(A=F->c=0)/\
  (c=0∨∃g E y,A=D ⟨g,E,F⟩/\G<=g/\w.heap[g]? =D (.cells y 3 (0,0))/\E+c<=y.size/\∀j z,q[j]? =D z->y[E+j]? =D (B o ((z:Nat):Int)))
section
variable {G:Nat} {w Z:ac} {v:ae} {q:List Nat}
theorem qB.below(h:qB G w v q)(L:Below w.heap.size w Z):qB G Z v q:=by
 obtain⟨A,c,h1,ab,ag,az,K⟩:=h.ex;refine⟨A,c,h1,ab,ag,az, ?_⟩;rcases K with K | ⟨g,E,y,ao,a2,J,M,N⟩
 ·exact .inl K
 ·exact .inr ⟨g,E,y,ao,a2,aG J L (am J),M,N⟩
end
def b5(l:List aR):List ae:=l.flatMap fun m=> [B o m.1, B o m.2.1, B o m.2.2.1, B o m.2.2.2.1, B o m.2.2.2.2.1, B o m.2.2.2.2.2]
theorem m0(m:aR)(l:List aR):b5 (m::l)= B o m.1:: B o m.2.1:: B o m.2.2.1:: B o m.2.2.2.1:: B o m.2.2.2.2.1:: B o m.2.2.2.2.2::b5 l:=rfl
theorem pu:∀{l:List aR} {j:Nat} {m:aR},l[j]? =D m->(b5 l)[j*6]? =D (B o m.1)/\(b5 l)[j*6+1]? =D (B o m.2.1)/\(b5 l)[j*6+2]? =D (B o m.2.2.1)/\(b5 l)[j*6+3]? =D (B o m.2.2.2.1)/\(b5 l)[j*6+4]? =D (B o m.2.2.2.2.1)/\(b5 l)[j*6+5]? =D (B o m.2.2.2.2.2)
 | [],j,m,h=>by simp at h
 | a::l,0,m,h=>by
  simp at h;subst h;exact⟨rfl,rfl,rfl,rfl,rfl,rfl⟩
 | a::l,j+1,m,h=>by
  have:=pu (l:=l) (j:=j) (m:=m) (by simpa using h);rw[m0,show(j+1)*6=j*6+1+1+1+1+1+1 by omega];simpa using this
theorem un:∀(l:List aR) (j:Nat) (m:aR),((((((b5 l).set (j*6) (B o m.1)).set (j*6+1) (B o m.2.1)).set (j*6+2) (B o m.2.2.1)).set (j*6+3) (B o m.2.2.2.1)).set (j*6+4) (B o m.2.2.2.2.1)).set (j*6+5) (B o m.2.2.2.2.2)=b5 (l.set j m)
 | [],j,m=>by simp[b5]
 | a::l,0,m=>rfl
 | a::l,j+1,m=>by
  have:=un l j m;rw[m0,show(j+1)*6=j*6+1+1+1+1+1+1 by omega];simp only[List.set_cons_succ,show ∀k,j*6+1+1+1+1+1+1+k=(j*6+k)+1+1+1+1+1+1 from fun k=>by omega];rw[this,m0]
def fK(w:ac)(aF:Nat)(l:List aR):Prop:=w.heap[aF]? =D (Y (b5 l).toArray 64 (0,0))
theorem fK.below{w Z:ac}{aF:Nat}{l:List aR}(h:fK w aF l)(L:Below w.heap.size w Z):fK Z aF l:=aG h L (am h)
theorem fK.at_{w:ac}{aF j:Nat}{l:List aR}{m:aR}(h:fK w aF l)(af:l[j]? =D m):w.cell? ⟨aF,j*6,F⟩=D (B o m.1)/\w.cell? ⟨aF,j*6+1,F⟩=D (B o m.2.1)/\w.cell? ⟨aF,j*6+2,F⟩=D (B o m.2.2.1)/\w.cell? ⟨aF,j*6+3,F⟩=D (B o m.2.2.2.1)/\w.cell? ⟨aF,j*6+4,F⟩=D (B o m.2.2.2.2.1)/\w.cell? ⟨aF,j*6+5,F⟩=D (B o m.2.2.2.2.2):=by
 have r:w.heap[aF]? =_:=h;obtain⟨P,ap,ak,R,T,V⟩:=pu af;exact⟨(aB r _).trans (by simpa using P),(aB r _).trans (by simpa using ap),(aB r _).trans (by simpa using ak),(aB r _).trans (by simpa using R),(aB r _).trans (by simpa using T),(aB r _).trans (by simpa using V)⟩
theorem fK.eu{w:ac}{aF:Nat}{l:List aR}(h:fK w aF l)(i:Nat):w.frozen? ⟨aF,i,F⟩=Q:=br (show w.heap[aF]? =_ from h) i
def jh(w:ac)(aF j:Nat)(m:aR):ac:=(((((w.setCell ⟨aF,j*6,F⟩ (B o m.1)).setCell ⟨aF,j*6+1,F⟩ (B o m.2.1)).setCell ⟨aF,j*6+2,F⟩ (B o m.2.2.1)).setCell ⟨aF,j*6+3,F⟩ (B o m.2.2.2.1)).setCell ⟨aF,j*6+4,F⟩ (B o m.2.2.2.2.1)).setCell ⟨aF,j*6+5,F⟩ (B o m.2.2.2.2.2)
theorem fK.set{w:ac}{aF:Nat}{l:List aR}(h:fK w aF l)(j:Nat)(m:aR):fK (jh w aF j m) aF (l.set j m):=by
 have r:w.heap[aF]? =_:=h;have:=bq (bq (bq (bq (bq (bq r (j*6) (B o m.1)) (j*6+1) (B o m.2.1)) (j*6+2) (B o m.2.2.1)) (j*6+3) (B o m.2.2.2.1)) (j*6+4) (B o m.2.2.2.2.1)) (j*6+5) (B o m.2.2.2.2.2);unfold fK jh;rw[this,<-un];simp
theorem pQ{I:Nat}{a w:ac}(h:Below I a w){aF:Nat}(s:I<=aF)(j:Nat)(m:aR):Below I a (jh w aF j m):=
 (((((h.setCell (p:=⟨aF,j*6,F⟩) s _).setCell (p:=⟨aF,j*6+1,F⟩) s _).setCell (p:=⟨aF,j*6+2,F⟩) s _).setCell (p:=⟨aF,j*6+3,F⟩) s _).setCell (p:=⟨aF,j*6+4,F⟩) s _).setCell (p:=⟨aF,j*6+5,F⟩) s _
theorem l4(l:List aR):(b5 l).length=l.length*6:=by
 induction l with
 | nil=>rfl
 | cons m l ah=>rw[m0];simp[ah];omega
theorem oh(a b:aR)(w:ac):(binOp .neq 64 (b2 a) (b2 b)).run aj w= .ok (aa (!au (a=b))) w:=by
 obtain⟨a0,ao,a2,J,M,N⟩:=a;obtain⟨b0,b1,aC,aM,ai,al⟩:=b;simp[go_sem]
 repeat (first | rfl | (split <;> simp_all))
end
section
open Go.RowKit Go.Maps
def dD(m:aR)(t:ah):ah:=h8 m.1 m.2.1 m.2.2.1 m.2.2.2.1 m.2.2.2.2.1 m.2.2.2.2.2 t.1 t.2.1 t.2.2
def kH(t:ah):Bool:=eg t.1 t.2.1 t.2.2
def el:ah:=(0,0,0)
def bA(L:List ah)(ms:List aR)(i:Nat):ah:=dD (ms.getD i zeroV) (L.getD i el)
def d6(L:List ah)(ms:List aR):List ah:=(c4 L.length).map (bA L ms)
def i9(L:List ah)(ms:List aR)(i:Nat):Prop:=bf (ms.getD i zeroV)=S/\kH (bA L ms i)=S
def fv(L:List ah)(C:aO->Bool)(ms:List aR)(i k:Nat):Prop:=∀j,fj L i k=D j->ms.getD j zeroV=kF L C i k (ms.getD i zeroV)
structure fp(L:List ah)(C:aO->Bool)(ms:List aR):Prop where
 len:ms.length=L.length
 may:∀i,i < L.length->i9 L ms i
 ok:∀i k,i < L.length->k < 3->fv L C ms i k
abbrev aP:=ah×List ah
def vR(L:List ah)(ms:List aR)(s:aP)(q:Nat)(t:ah):Prop:=t ∈ L/\bA L ms (L.idxOf t)=s.1/\t ∉ s.2.take q
structure eo(L:List ah)(ms:List aR)(sts:List aP):Prop where
 ne:∀(i:Nat) (s:aP),sts[i]? =D s->s.2≠ []
 lt:∀(i:Nat) (p s:aP),sts[i]? =D p->sts[i+1]? =D s->c3 p.1 s.1
 ay:∀(i:Nat) (s:aP) (q:Nat) (t:ah),sts[i]? =D s->s.2[q]? =D t->vR L ms s q t
 many:(sts.flatMap (·.2)).length=L.length
structure iz(W H:Int)(mask:List Int)(cs:List bw)(ms:List aR)(sts:List aP):Prop where
 lf:fu W H mask cs=S
 maps:fp (bG W.toNat mask) (fr Q cs) ms
 pT:eo (bG W.toNat mask) ms sts
theorem jA(L:List ah)(ms:List aR):(d6 L ms).length=L.length:=by simp[d6]
theorem qI{L:List ah}{ms:List aR}{i:Nat}(h:i < L.length):(d6 L ms)[i]? =D (bA L ms i):=by simp[d6,h]
def cv(sts:List aP)(i q:Nat):List ah:=(sts.take i).flatMap (·.2)++((sts[i]?.map (·.2)).getD []).take q
structure eS(L:List ah)(ms:List aR)(sts:List aP)(i q:Nat):Prop where
 ne:∀(j:Nat) (s:aP),(j < i∨j=i/\0 < q)->sts[j]? =D s->s.2≠ []
 lt:∀(j:Nat) (p s:aP),(j+1 < i∨j+1=i/\0 < q)->sts[j]? =D p->sts[j+1]? =D s->c3 p.1 s.1
 ay:∀(j:Nat) (s:aP) (p:Nat) (t:ah),(j < i∨j=i/\p < q)->sts[j]? =D s->s.2[p]? =D t->vR L ms s p t
theorem eS.start(L:List ah)(ms:List aR)(sts:List aP):eS L ms sts 0 0:=⟨fun j s h=>by omega,fun j p s h=>by omega,fun j s p t h=>by omega⟩
section
variable {L:List ah} {ms:List aR} {sts:List aP} {i q:Nat}
theorem eS.done(h:eS L ms sts sts.length 0)(y:(sts.flatMap (·.2)).length=L.length):eo L ms sts where
 ne i s c:=h.ne i s (.inl (bM.1 c).1) c
 lt i p s l c:=h.lt i p s (.inl (bM.1 c).1) l c
 ay i s q t c ht:=h.ay i s q t (.inl (bM.1 c).1) c ht
 many:=y
theorem eS.next{s:aP}(c:sts[i]? =D s)(h:eS L ms sts i s.2.length)(h0:0 < s.2.length):eS L ms sts (i+1) 0 where
 ne j u g hu:=h.ne j u (by rcases oI j i with h1 | h1;exact .inl h1;exact .inr ⟨by omega,h0⟩) hu
 lt j p u g l hu:=h.lt j p u (by rcases oI (j+1) i with h1 | h1;exact .inl h1;exact .inr ⟨by omega,h0⟩) l hu
 ay j u p t g hu ht:=by
  rcases oI j i with h1 | h1
  ·exact h.ay j u p t (.inl h1) hu ht
  obtain rfl:j=i:=by omega
  rw[c] at hu;cases hu
  exact h.ay j _ p t (.inr ⟨rfl,(bM.1 ht).1⟩) c ht
theorem eS.apart(h:eS L ms sts i q)(z:∀(j:Nat) (p s:aP),j+1<=i->sts[j]? =D p->sts[j+1]? =D s->c3 p.1 s.1){j:Nat}(g:j < i){a s:aP}(r:sts[j]? =D a)(c:sts[i]? =D s):c3 a.1 s.1:=by
 have key:∀(d j:Nat) (a:aP),i=j+1+d->sts[j]? =D a->c3 a.1 s.1:=by
  intro d
  induction d with
  | zero=>
   intro j a e r;subst e;exact z j a s (by omega) r c
  | succ d K=>
   intro j a e r;obtain⟨b,G⟩:∃b,sts[j+1]? =D b:=⟨_,bb (by have:=(bM.1 c).1;omega)⟩;exact nw (z j a b (by omega) r G) (K (j+1) b (by omega) G)
 exact key (i-j-1) j a (by omega) r
theorem pv{t:ah}(h:t ∈ cv sts i q):(∃(j:Nat) (a:aP),j < i/\sts[j]? =D a/\t ∈ a.2)∨∃s:aP,sts[i]? =D s/\t ∈ s.2.take q:=by
 unfold cv at h;rcases js.1 h with h | h
 ·left
  obtain⟨a,r,ht⟩:=hj.1 h;obtain⟨j,g⟩:=fz r;rw[iT] at g
  split at g
  ·exact⟨j,a,by assumption,g,ht⟩
  ·cases g
 right
 cases c:sts[i]? with
 | none=>rw[c] at h;simp at h
 | some s=>rw[c] at h;exact⟨s,rfl,h⟩
theorem eS.Dn(h:eS L ms sts i q){s:aP}(c:sts[i]? =D s){t:ah}(ht:s.2[q]? =D t)(y:t ∈ cv sts i q):¬eo L ms sts:=by
 intro A;obtain⟨_,b9,dZ⟩:=A.ay i s q t c ht;rcases pv y with ⟨j,a,g,r,E⟩ | ⟨M,I,hts⟩
 ·obtain⟨p,l⟩:=fz E
  obtain⟨_,ct,_⟩:=A.ay j a p t r l;have:=h.apart (fun j p s _=>A.lt j p s) g r c;rw[<-ct,<-b9] at this;exact gg _ this
 rw[c] at I;cases I
 exact dZ hts
theorem lV{s:aP}(c:sts[i]? =D s){t:ah}(ht:s.2[q]? =D t):cv sts i (q+1)=cv sts i q++ [t]:=by
 unfold cv;rw[c];simp only[Option.map_some,st];rw[hT,ht,List.append_assoc];rfl
theorem n3(sts:List aP)(i:Nat):cv sts i 0=(sts.take i).flatMap (·.2):=by simp[cv]
theorem o5{s:aP}(c:sts[i]? =D s):cv sts i s.2.length=cv sts (i+1) 0:=by
 rw[n3,hT,c];unfold cv;rw[c];simp
theorem eS.vT(h:eS L ms sts i q){s:aP}(c:sts[i]? =D s){t:ah}(ht:s.2[q]? =D t)(J:s.2≠ [])(z:∀(j:Nat) (p:aP),j+1=i->sts[j]? =D p->c3 p.1 s.1)(h1:t ∈ L)(ab:bA L ms (L.idxOf t)=s.1)(ag:t ∉ cv sts i q):eS L ms sts i (q+1) where
 ne j u g hu:=by
  by_cases e:j=i
  ·subst e
   rw[c] at hu;cases hu
   exact J
  ·exact h.ne j u (.inl (by omega)) hu
 lt j p u g l hu:=by
  by_cases e:j+1=i
  ·subst e
   rw[c] at hu;cases hu
   exact z j p rfl l
  ·exact h.lt j p u (.inl (by omega)) l hu
 ay j u p t' g hu ht':=by
  by_cases e:j=i/\p=q
  ·obtain⟨rfl,rfl⟩:=e
   rw[c] at hu;cases hu
   rw[ht] at ht';cases ht'
   refine⟨h1,ab,fun y=>ag ?_⟩;unfold cv;rw[c];exact wA _ y
  ·exact h.ay j u p t' (by omega) hu ht'
theorem eS.uj(h:eS L ms sts i q)(hnd:(cv sts i q).Nodup):(cv sts i q).length<=L.length:=by
 refine ik hnd fun t ht=> ?_;rcases pv ht with ⟨j,a,g,r,E⟩ | ⟨s,c,hts⟩
 ·obtain⟨p,l⟩:=fz E
  exact(h.ay j a p t (.inl g) r l).1
 obtain⟨p,l⟩:=fz hts;rw[iT] at l
 split at l
 ·exact(h.ay i s p t (.inr ⟨rfl,by assumption⟩) c l).1
 ·cases l
end
end
section
open Go.RowKit Go.Maps
theorem DE(w:ac):(zeroValue 22).run aj w= .ok (O F 0 0) w:=by kernel_rfl
def iN:ke ah ae where
 K:=53
 enc t:=bK t
 ok t:=bj t.1/\bj t.2.1/\bj t.2.2
 law:=Keyed.of_law pi
 key a h:=tV h.1 h.2.1 h.2.2
 inj a b h:=ei.inj a b h
 T:=60
 E:=22
 val v:=v
 z:= O F 0 0
 ht:=Tryz.underlying60
 aI:=DE
structure eT(w:ac)(N b n:Nat)(f:ah->Option ae)(g:ah->List Nat):Prop where
 map:cY iN w b n f
 no:∀t,f t=F->g t= []
 row:∀t v,f t=D v->w.ownsRow N 3 1 v (g t).length (di (g t))/\g t≠ []
 e6:∀t J v a8,t≠J->f t=D v->f J=D a8->v.ownBlock≠a8.ownBlock
theorem cY.is{L M:Type}{k:ke L M}{w:ac}{b n:Nat}{f:L->Option M}(h:cY k w b n f):∃y c,w.heap[b]? =D (.map y c):=by
 obtain⟨R,⟨y,c,h1,_⟩,_⟩:=h;exact⟨y,c,h1⟩
def dP(w:ac)(ar aA:Nat)(aS r l:ae)(aJ:Nat):Prop:=w.heap[ar]? =D (Y #[ad (D ⟨aA,0,F⟩),aS,r,l, .map (D aJ)] 62 (0,0))
section
variable {w Z:ac} {ar aA aJ:Nat} {aS r l:ae}
theorem dP.below(h:dP w ar aA aS r l aJ)(G:Below w.heap.size w Z):dP Z ar aA aS r l aJ:=aG h G (am h)
theorem dP.a1(h:dP w ar aA aS r l aJ):w.cell? ⟨ar,0,F⟩=D (ad (D ⟨aA,0,F⟩)):=(aB (show w.heap[ar]? =_ from h) 0).trans rfl
theorem dP.c1(h:dP w ar aA aS r l aJ):w.cell? ⟨ar,1,F⟩=D aS:=(aB (show w.heap[ar]? =_ from h) 1).trans rfl
theorem dP.c2(h:dP w ar aA aS r l aJ):w.cell? ⟨ar,2,F⟩=D r:=(aB (show w.heap[ar]? =_ from h) 2).trans rfl
theorem dP.bV(h:dP w ar aA aS r l aJ):w.cell? ⟨ar,3,F⟩=D l:=(aB (show w.heap[ar]? =_ from h) 3).trans rfl
theorem dP.bC(h:dP w ar aA aS r l aJ):w.cell? ⟨ar,4,F⟩=D (.map (D aJ)):=(aB (show w.heap[ar]? =_ from h) 4).trans rfl
theorem dP.eu(h:dP w ar aA aS r l aJ)(i:Nat):w.frozen? ⟨ar,i,F⟩=Q:=br (show w.heap[ar]? =_ from h) i
theorem dP.Cf(h:dP w ar aA aS r l aJ)(v:ae):dP (w.setCell ⟨ar,2,F⟩ v) ar aA aS v l aJ:=by
 have:=bq (show w.heap[ar]? =_ from h) 2 v;unfold dP;simpa using this
end
theorem Rd.mp{w:ac}{A:Option Addr}{ms:List aR}(h:Rd w 6 A ms.length (b5 ms)){i:Nat}(al:i < ms.length):∃b s m,A=D ⟨b,s,F⟩/\ms[i]? =D m/\b < w.heap.size/\
  w.cell? ⟨b,s+i*6,F⟩=D (B o m.1)/\w.cell? ⟨b,s+i*6+1,F⟩=D (B o m.2.1)/\w.cell? ⟨b,s+i*6+2,F⟩=D (B o m.2.2.1)/\w.cell? ⟨b,s+i*6+3,F⟩=D (B o m.2.2.2.1)/\w.cell? ⟨b,s+i*6+4,F⟩=D (B o m.2.2.2.2.1)/\w.cell? ⟨b,s+i*6+5,F⟩=D (B o m.2.2.2.2.2):=by
 obtain⟨b,s,e,G,hc⟩:=h.2 (by omega);obtain⟨m,I⟩:∃m,ms[i]? =D m:=⟨_,bb al⟩;obtain⟨P,ap,ak,V,ab,af⟩:=pu I;refine⟨b,s,m,e,I,G,hc _ _ P, ?_, ?_, ?_, ?_, ?_⟩ <;> (rw[qs];exact hc _ _ (by assumption))
end
section
open Go.RowKit
section
variable {P:Program} {ops:Array Oper}
def oV(ops:Array Oper)(T:List Nat)(dq:List (List Bool))(cl:List (List Nat)):Bool:=
 (T.all fun t=>Nat.blt t ops.size) && (c4 T.length).all (fun q=>Nat.beq q 0 || eB .any ops (T.getD q 0) (T.getD (q-1) 0)) && (c4 T.length).all (fun q=>mK ops [T.getD q 0] (cl.getD q [])) &&
 (c4 ops.size).all (fun i=>T.contains i || (c4 (T.length+1)).all fun j=>(dq.getD j []).getD i Q || ((!Nat.beq j 0 && (cl.getD (j-1) []).contains i) || (T.drop j).any fun t=>eB .any ops i t)) && decide T.Nodup
theorem ir{id:Nat}{a:Act}{w:ac}{z:Exit->Act->ac->Prop}(T:List Nat)(dq:List (List Bool))(cl:List (List Nat))(y:(Nat->ae)->List ae)(R:Nat->(Nat->ae)->ac->Prop){fin:(Nat->ae)->Act}(hf:∀x,aT ops.toList (y x) a=fin x)(aR:P.follows .mixedOrders=S)(M:g4 ops=S)(ah:∀x,(y x).length=ops.size)
  (hc:oV ops T dq cl=S) (a3:∀x j t v,T[j]? =D t->y (gj x j v)=(y x).set t v) (h0:R 0 (fun _=>U) w.drew)
  (hA:∀j x W,j<=T.length->R j x W->gv P ops (fin x) (R j x) W ops.toList (dq.getD j []))
  (bi:∀j t x W,T[j]? =D t->R j x W->∀af,ops[t]? =D af->∀K:Act->ac->Prop,(∀v W',R (j+1) (gj x j v) W'->K ((fin x).put af.dst v) W')->
    if Region.wanted af (yielded ops (fin x).tmps)=S then af.wp P (fin x) W K je else K ((fin x).put af.dst U) W)
  (ay:∀x W,R T.length x W->z .normal (fin x) W):(j1 id ops S).wp P z a w:=by
 unfold oV at hc;obtain⟨hc,b8⟩:=(cu _ _).mp hc;obtain⟨hc,bC⟩:=(cu _ _).mp hc;obtain⟨hc,bV⟩:=(cu _ _).mp hc;obtain⟨c1,c2⟩:=(cu _ _).mp hc;have hnd:T.Nodup:=of_decide_eq_true b8;have aP:∀q t,T[q]? =D t->t < ops.size:=fun q t h=>Nat.le_of_ble_eq_true (dM.1 c1 t (cH h));have a4:∀q t s,T[q+1]? =D t->T[q]? =D s->eB .any ops t s=S:=fun q t s h1 ab=>by
  have ag:=(bM.1 h1).1;have h:=dM.1 c2 (q+1) (fl.2 ag);simp only[cf,h1,Nat.add_sub_cancel,ab,st] at h;rcases gJ _ _ |>.mp h with h | h
  ·simp at h
  ·exact h
 have aV:∀i,(eA ops.size Q).getD i Q=Q:=fun i=>by
  simp only[Array.getD_eq_getD_getElem?,Array.getElem?_replicate]
  split <;> rfl
 refine pO y (fun x L W=>∃j,j<=T.length/\(∀q t,T[q]? =D t->(L.getD t Q=S↔q < j))/\R j x W) hf aR M ah (fun _=>U) ⟨0,Nat.zero_le _,fun q t _=>by rw[aV];simp,h0⟩ ?_ ?_
 ·rintro x L W hsz aL ⟨j,aA,A,hst⟩ i af J an aC K aG aH
  have al:=(hb.1 J).1;have a0:(L.setIfInBounds i S).getD i Q=S:=by
   have:i < L.size:=by omega
   simp[this]
  have aB:L.getD i Q=Q:=na an;by_cases ax:∃q:Nat,T[q]? =D i
  ·obtain⟨q,g⟩:=ax
   have h1:¬q < j:=fun h=>by rw[(A q i g).2 h] at aB;cases aB
   have ab:q=j:=by
    cases q with
    | zero=>omega
    | succ q=>
     have aX:=(bM.1 g).1;obtain⟨s,V⟩:∃s,T[q]? =D s:=⟨_,bb (by omega)⟩;have:=(A q s V).1 (aC s (a4 q i s g V));omega
   subst ab;have aX:=(bM.1 g).1;refine bi q i x W g hst af J K fun v W' h=>aH v (gj x q v) W' (a3 x q i v g) ⟨q+1,by omega,fun cM aD ar=> ?_,h⟩;by_cases e:i=aD
   ·subst e
    have:cM=q:=by
     have ao:=(bM.1 ar);have a2:=(bM.1 g);exact(List.getElem_inj hnd).1 (ao.2.trans a2.2.symm)
    subst this;rw[a0];simp
   rw[getD_set_ne Q e,A cM aD ar];have:cM≠q:=fun ak=>by rw[ak,g] at ar;exact e (cn ar)
   omega
  have aU:T.contains i=Q:=by
   rw[<-qa,j3];intro aS;obtain⟨q,g⟩:=fz aS;exact ax ⟨q,g⟩
  have az:=dM.1 bC i (fl.2 al);rw[aU,Bool.false_or] at az;have az:=dM.1 az j (fl.2 (by omega));have key:∀W',R j x W'->K (fin x) W':=fun W' h=>aG W' ⟨j,aA,fun q t g=>by
   have:i≠t:=fun e=>ax ⟨q,by rw[e];exact g⟩;rw[getD_set_ne Q this];exact A q t g,h⟩
  have aE:(dq.getD j []).getD i Q=S->(dq.getD j [])[i]? =D S:=fun h=>by
   rw[cf] at h
   cases g:(dq.getD j [])[i]? with
   | none=>rw[g] at h;cases h
   | some b=>rw[g] at h;simp at h;rw[h]
  refine(hA j x W aA hst).at_ (by simpa using J) (aE ?_) K key;rcases gJ _ _ |>.mp az with G | G
  ·exact G
  exfalso;rcases gJ _ _ |>.mp G with G | G
  case inr=>
   obtain⟨t,ht,ai⟩:=oE.1 G;obtain⟨q,g⟩:=fz ht;rw[List.getElem?_drop] at g;have:=(A (j+q) t g).1 (aC t ai);omega
  obtain⟨aF,G⟩:=(cu _ _).mp G
  cases j with
  | zero=>cases aF
  | succ j=>
   rw[Nat.add_sub_cancel,j3] at G;obtain⟨s,V⟩:∃s,T[j]? =D s:=⟨_,bb (by omega)⟩;have aZ:T.getD j 0=s:=by rw[cf,V];rfl
   have:=mL aL (cl.getD j []) [T.getD j 0] (dM.1 bV j (fl.2 (by omega))) (by intro k I;rw[iy] at I;subst I;rw[aZ];exact(A j s V).2 (by omega)) i G;rw[aB] at this;cases this
 rintro x L W ⟨j,aA,A,hst⟩ hall;have:j=T.length:=by
  by_cases h:j < T.length
  ·exfalso
   obtain⟨s,V⟩:∃s,T[j]? =D s:=⟨_,bb h⟩;have:=(A j s V).1 (hall s (aP j s V));omega
  ·omega
 subst this;exact ay x W hst
theorem B0{id:Nat}{a:Act}{w:ac}{z:Exit->Act->ac->Prop}(y:List ae)(E:ac->Prop){fin:Act}(hf:aT ops.toList y a=fin)(M:g4 ops=S)(ah:y.length=ops.size)
  (h0:E w) (dH:∀W,E W->gv P ops fin E W ops.toList (f0 ops.size S)) (ay:∀W,E W->z .normal fin W):(j1 id ops Q).wp P z a w:=by
 have aK:=((cu _ _).mp M).1;have key:∀(m i:Nat) (L:Array Bool) (Z:Act) (W:ac),i+m=ops.size->L.size=ops.size->(∀k,k < i->L.getD k Q=S)->(∀k,i<=k->k < ops.size->L.getD k S=Q)->Fr ops fin L Z->E W->wpOps P ops z (List.range' i m) Z W:=by
  intro m
  induction m with
  | zero=>
   intro i L Z W aN hsz A _ hF aw;have:Z=fin:=by
    obtain⟨a6,d1⟩:=Z;obtain⟨a7,d2⟩:=fin;have h1:=hF.kn;simp only at h1;subst h1
    congr 1
    apply Array.ext_getElem?
    intro j;by_cases g:∀(k:Nat) (p:Oper),ops[k]? =D p->p.dst≠D j
    ·exact hF.out j g
    simp only[Classical.not_forall,Classical.not_not] at g;obtain⟨k,p,I,aW⟩:=g;exact hF.val k p j I aW (A k (by have:=(hb.1 I).1;omega))
   subst this;exact ay W aw
  | succ m a5=>
   intro i L Z W aN hsz A an hF aw;have al:i < ops.size:=by omega
   have J:ops[i]? =D ops[i]:=Array.getElem?_eq_getElem al;rw[List.range'_succ,wpOps_cons];have aY:i ∈ Region.ready .any ops L:=mem_ready.2 ⟨an i (Nat.le_refl _) al,ops[i],J,fun e N aJ=>by
    have h1:=dM.1 aK i (fl.2 al);rw[J] at h1;simp only at h1;have ag:=Array.all_eq_true'.1 h1 e N;rw[aJ] at ag;exact A _ (of_decide_eq_true (by simpa using ag:au (e.on < i)=S))⟩
   have l:=(dH W aw).at_ (i:=i) (af:=ops[i]) (by rw[<-J,Array.getElem?_toList]) (by rw[List.getElem?_replicate,if_pos al]) (fun b W'=>b=fin/\E W') (fun W' h=>⟨rfl,h⟩);obtain⟨ap,ak⟩:=hF.eval M J aY;have am:∀v W',fin.put ops[i].dst v=fin->E W'->wpOps P ops z (List.range' (i+1) m) (Z.put ops[i].dst v) W':=fun v W' a1 aI=>by
    refine a5 (i+1) (L.setIfInBounds i S) _ W' (by omega) (by simpa using hsz) (fun k I=> ?_) (fun k I aO=> ?_) (hF.put M J a1) aI
    ·by_cases e:k=i
     ·subst e
      have:k < L.size:=by omega
      simp[this]
     ·exact getD_set_true (A k (by omega))
    rw[getD_set_ne S (by omega)];exact an k (by omega) aO
   unfold wpOp;simp only[J];rw[ak];split
   ·rename_i ai
    rw[if_pos ai] at l;refine .inl ?_;unfold Oper.wp at l |-;rw[ap];generalize (execOp fin.eval ops[i]).run P W=r at l |-
    cases r with
    | ok x W'=>
     cases x <;> simp only[Oper.upon] at l |-
     case value v=>exact am v W' l.1 l.2
     case skip=>exact am U W' l.1 l.2
     case defer d=>
      exfalso;have:=congrArg Act.defers l.1;cases aM:ops[i].dst <;> simp[aM,Act.put] at this
     case enter f args=>
      refine Calls.mono l fun e av N=> ?_
      cases e with
      | returned v=>exact am v av N.1 N.2
      | panicked c=>exact N.elim
      | outgrown=>
       obtain⟨_,_,h⟩:=N;exact h.elim
     case row r args=>exact Rows.mono l fun v av N=>am v av N.1 N.2
    | halt x W'=>cases x <;> simp only[Oper.upon] at l |- <;> exact l.elim
   rename_i ai
   rw[if_neg ai] at l;exact am U W l.1 l.2
 refine wp_region ?_;rw[List.range_eq_range'];exact key ops.size 0 (eA ops.size Q) a w (by omega) (by simp) (fun k I=>by omega) (fun k _ I=>by simp[I]) (Fr.start hf) h0
theorem vp{id:Nat}{a:Act}{w:ac}{z:Exit->Act->ac->Prop}(y:List ae)(E:ac->Prop){fin:Act}(hf:aT ops.toList y a=fin)(M:g4 ops=S)(ah:y.length=ops.size)
  (h0:E w) (h:∀W,E W->gv P ops fin E W ops.toList (f0 ops.size S)/\z .normal fin W):(j1 id ops Q).wp P z a w:=
 B0 y E hf M ah h0 (fun W x=>(h W x).1) (fun W x=>(h W x).2)
theorem ou{id:Nat}{a:Act}{w:ac}{z:Exit->Act->ac->Prop}(y:List ae){fin:Act}(hf:aT ops.toList y a=fin)(M:g4 ops=S)(ah:y.length=ops.size)
  (h:∀W,Below w.heap.size w W->gv P ops fin (fun W=>Below w.heap.size w W) W ops.toList (f0 ops.size S)/\z .normal fin W):(j1 id ops Q).wp P z a w:=
 vp y _ hf M ah (Below.refl _ _) h
end
end
section
set_option maxRecDepth 100000
open Go.RowKit Go.Maps
structure jx(w:ac)(aA:Nat)(aS:ae)(L:List ah)(ms:List aR)(aF aJ ar i:Nat)(c:ae)(wr:ac):Prop where
 cd:dP wr ar aA aS c (O (D ⟨aF,0,F⟩) L.length L.length) aJ
 own:wr.ownsRow w.heap.size 53 3 c i (bn ((d6 L ms).take i))
 c8:wr.heap[aF]? =D (Y (eA L.length (B o 0)) 3 (0,0))
 map:cY iN wr aJ 0 (fun _=>F)
 bel:Below w.heap.size w wr
 ge:w.heap.size<=aF/\w.heap.size<=aJ/\w.heap.size<=ar
section
variable {w wr Z:ac} {aA:Nat} {aS c:ae} {L:List ah} {ms:List aR} {aF aJ ar i:Nat}
theorem jx.below(h:jx w aA aS L ms aF aJ ar i c wr)(P:Below wr.heap.size wr Z):jx w aA aS L ms aF aJ ar i c Z:=
 ⟨h.cd.below P,bo h.own P,aG h.c8 P (am h.c8),h.map.stay P,ax h.bel P,h.ge⟩
theorem jx.ne(h:jx w aA aS L ms aF aJ ar i c wr):c.ownBlock≠D ar/\c.ownBlock≠D aF/\c.ownBlock≠D aJ:=
 ⟨dy h.own h.cd (by decide),dy h.own h.c8 (by decide),eN h.own h.map.is⟩
end
theorem BI(aA bz bg W H bO:Nat)(aS bD bJ:ae)(L:List ah)(dc mk:Nat)(aU:aO->Option Int)(z:Option Addr)(eX:Nat)(ms:List aR)(w:ac)(bu:Steps w)(bt:eE w aA bz bg W H aS bD bJ L dc mk aU)(I:w.ownsRow bO 53 3 bJ L.length (bn L))
  (be:∀t ∈ L,eD t) (b3:L.length<=1000) (bs:ms.length=L.length) (br:Rd w 6 z L.length (b5 ms)) (ak:∀m ∈ ms,jy m.1 m.2.1 m.2.2.1 m.2.2.2.1 m.2.2.2.2.1 m.2.2.2.2.2):
  Calls aj 44 #[ad (D ⟨aA,0,F⟩), O z L.length eX] w fun r Z=>∃ar aF aJ c,r= .returned (ad (D ⟨ar,0,F⟩))/\jx w aA (O z L.length eX) L ms aF aJ ar L.length c Z:=by
 have b6:=ui L.length b3;have b7:=@run_makeMap aj;obtain⟨bV,bU,du,bS,bT,bW,bc⟩:=kp bt I bu be br ak bs;clear bt I bu be br ak bs;go_in
 go_wp2_with fail
 have ca:(((w.alloc (Y (eA L.length (B o 0)) 3)).alloc (.map #[] 0)).alloc (Y #[ad (D ⟨aA,0,F⟩), O z L.length eX, O F 0 0, O (D ⟨w.heap.size,0,F⟩) L.length L.length, .map (D (w.heap.size+1))] 62)).heap.size=w.heap.size+3:=by simp
 have bf:jx w aA (O z L.length eX) L ms w.heap.size (w.heap.size+1) (w.heap.size+1+1) 0 (O F 0 0) (((w.alloc (Y (eA L.length (B o 0)) 3)).alloc (.map #[] 0)).alloc (Y #[ad (D ⟨aA,0,F⟩), O z L.length eX, O F 0 0, O (D ⟨w.heap.size,0,F⟩) L.length L.length, .map (D (w.heap.size+1))] 62)):=by
  refine⟨?_,gl _ _ _ _,aW (aW (aQ w _) _) _, ?_,((aV w _).alloc (by simp) _).alloc (by simp;omega) _,ce,by omega,by omega⟩
  ·have:=aQ ((w.alloc (Y (eA L.length (B o 0)) 3)).alloc (.map #[] 0)) (Y #[ad (D ⟨aA,0,F⟩), O z L.length eX, O F 0 0, O (D ⟨w.heap.size,0,F⟩) L.length L.length, .map (D (w.heap.size+1))] 62)
   unfold dP;simpa using this
  have:=cY.made iN (w.alloc (Y (eA L.length (B o 0)) 3));simp only[World.size_alloc] at this;exact this.alloc _
 have aI:=R bf;clear bf ca b6 b7;generalize (((w.alloc (Y (eA L.length (B o 0)) 3)).alloc (.map #[] 0)).alloc (Y #[ad (D ⟨aA,0,F⟩), O z L.length eX, O F 0 0, O (D ⟨w.heap.size,0,F⟩) L.length L.length, .map (D (w.heap.size+1))] 62))=w5 at aI |-;go_loopw [18] (fun v wr=>∃(i:Nat) (c:ae),i<=L.length/\v= B o i/\Hid (jx w aA (O z L.length eX) L ms w.heap.size (w.heap.size+1) (w.heap.size+1+1) i c wr)) (fun v _=>L.length-(intOf v).toNat)
 case atStart=>exact⟨0,_,by omega,rfl,aI⟩
 clear aI;obtain⟨i,c,al,rfl,aH⟩:=hrel;by_cases aP:i < L.length
 ·obtain⟨aK,a3,m,hA,a0,co,a4,a5,a6,a7,a8,a9⟩:=Rd.mp (by rw[bc.out];exact bT.out) (show i < ms.length by rw[bc.out];exact aP)
  subst hA;obtain⟨t,ht⟩:∃t,L[i]? =D t:=⟨_,bb aP⟩;have aN:=aH.out.bel;obtain⟨a4,a5,a6,a7,a8,a9⟩:=jf aN a4 a5 a6 a7 a8 a9;have ak:=bW.out m (cH a0);have G:=bS.out t (cH ht);have cv:(i:Int) < (L.length:Int):=by omega
  have ct:(0:Int)<=(i:Int):=by omega
  have bj:bA L ms i=dD m t:=by unfold bA;rw[cf,cf,a0,ht];rfl
  have a2:(d6 L ms).take (i+1)=(d6 L ms).take i++ [dD m t]:=by rw[hT,qI aP,bj];rfl
  have aL:=fun(W:ac) (h:Below wr.heap.size wr W)=>rz m.1 m.2.1 m.2.2.1 m.2.2.2.1 m.2.2.2.2.1 m.2.2.2.2.2 t.1 t.2.1 t.2.2 W (du.out.below (aN.trans (h.mono aN.size))) ak (by have:=G.1;omega) (by have:=G.1;omega) (by have:=G.2.1;omega) (by have:=G.2.1;omega) G.2.2.1 G.2.2.2;obtain⟨a,aM⟩:=ai (dD m t);rw[show h8 m.1 m.2.1 m.2.2.1 m.2.2.2.1 m.2.2.2.2.1 m.2.2.2.2.2 t.1 t.2.1 t.2.2=a from aM.symm] at aL;rw[<-aM] at a2;obtain⟨bP,bY,bX⟩:=cq aL a2 ht;clear aL ak G bj a2 aM a0 ht;obtain⟨l,rfl⟩:=ai wr
  go_wp2_with fail
  have bx:=aQ l (Y #[B o m.1, B o m.2.1, B o m.2.2.1, B o m.2.2.2.1, B o m.2.2.2.2.1, B o m.2.2.2.2.2] 64);have T:=aV l (Y #[B o m.1, B o m.2.1, B o m.2.2.1, B o m.2.2.2.1, B o m.2.2.2.2.1, B o m.2.2.2.2.2] 64);have bh:=aH.out.below T;obtain⟨bG,ba,bH,bI,bL,bN⟩:=cx bx;obtain⟨M,bQ⟩:=aY bh T;clear a4 a5 a6 a7 a8 a9 aH bh bx;generalize l.alloc (Y #[B o m.1, B o m.2.1, B o m.2.2.1, B o m.2.2.2.1, B o m.2.2.2.2.1, B o m.2.2.2.2.2] 64)=w6 at bG ba bH bI bL bN M bQ T |-;have b9:=M.out.cd.c2;have bk:=M.out.bel;have bC:=V bV.out.bC bk;have bZ:0 < L.length:=by omega
  have bd:=R (bo bU.out bk);obtain⟨gt,dx,cl,b8,_,_,_,_⟩:=dF bd.out bZ;subst b8;obtain⟨cb,cg,ch⟩:=ey bd.out bX.out;refine ir (fin:= ?ba) [14,15,18] [[S,S,S,S,S,S,S,S,S,S,S,S,S,S,Q,Q,S,S,Q], [S,S,S,S,S,Q,Q,Q,Q,Q,Q,Q,Q,Q,Q,Q,S,S,Q], [S,Q,Q,Q,Q,Q,Q,Q,Q,Q,Q,Q,Q,Q,Q,Q,S,S,Q], [Q,Q,Q,Q,Q,Q,Q,Q,Q,Q,Q,Q,Q,Q,Q,Q,Q,Q,Q]] [[13,5,12,11,9,10,8,7,6], [4,14,3,13,2,5,12,1,11,9,10,8,7,6], [17,15,16,4,14,0,3,13,2,5,12,1,11,9,10,8,7,6]] (fun x=> [ad (D ⟨w.heap.size+1+1,0,F⟩), ad (D ⟨w.heap.size+1+1,0,F⟩), ad (D ⟨w.heap.size+1+1,0,F⟩), ad (D ⟨w.heap.size+1+1,2,F⟩),c,b2 m, ad (D ⟨aA,0,F⟩), ad (D ⟨aA,0,F⟩), ad (D ⟨aA,4,F⟩), O (D ⟨gt,0,F⟩) L.length dx, B o i, ad (D ⟨gt,i*3,F⟩),bK t,bK a,(x 0),(x 1), ad (D ⟨w.heap.size+1+1,0,F⟩), ad (D ⟨w.heap.size+1+1,2,F⟩),(x 2)]) (fun j x b=>match j with | 0=>b.cell? ⟨l.heap.size,0,F⟩=D (B o m.1)/\b.cell? ⟨l.heap.size,1,F⟩=D (B o m.2.1)/\b.cell? ⟨l.heap.size,2,F⟩=D (B o m.2.2.1)/\b.cell? ⟨l.heap.size,3,F⟩=D (B o m.2.2.2.1)/\b.cell? ⟨l.heap.size,4,F⟩=D (B o m.2.2.2.2.1)/\b.cell? ⟨l.heap.size,5,F⟩=D (B o m.2.2.2.2.2)/\b.cell? ⟨w.heap.size+1+1,2,F⟩=D (c)/\b.cell? ⟨aA,4,F⟩=D (O (D ⟨gt,0,F⟩) L.length dx)/\b.cell? ⟨gt,i*3,F⟩=D (B o t.1)/\b.cell? ⟨gt,i*3+1,F⟩=D (B o t.2.1)/\b.cell? ⟨gt,i*3+2,F⟩=D (B o t.2.2)/\Below w6.heap.size w6 b | 1=>b.cell? ⟨l.heap.size,0,F⟩=D (B o m.1)/\b.cell? ⟨l.heap.size,1,F⟩=D (B o m.2.1)/\b.cell? ⟨l.heap.size,2,F⟩=D (B o m.2.2.1)/\b.cell? ⟨l.heap.size,3,F⟩=D (B o m.2.2.2.1)/\b.cell? ⟨l.heap.size,4,F⟩=D (B o m.2.2.2.2.1)/\b.cell? ⟨l.heap.size,5,F⟩=D (B o m.2.2.2.2.2)/\b.cell? ⟨w.heap.size+1+1,2,F⟩=D (c)/\b.cell? ⟨aA,4,F⟩=D (O (D ⟨gt,0,F⟩) L.length dx)/\b.cell? ⟨gt,i*3,F⟩=D (B o t.1)/\b.cell? ⟨gt,i*3+1,F⟩=D (B o t.2.1)/\b.cell? ⟨gt,i*3+2,F⟩=D (B o t.2.2)/\Below w6.heap.size w6 b/\∃g,Hid (x 0= O (D ⟨g,0,F⟩) 1 1)/\b.heap[g]? =D (Y #[B o a.1, B o a.2.1, B o a.2.2] 53 (0,0)) | 2=>dP b (w.heap.size+1+1) aA (O (D ⟨aK,a3,F⟩) L.length eX) c (O (D ⟨w.heap.size,0,F⟩) L.length L.length) (w.heap.size+1)/\b.ownsRow w.heap.size 53 3 (x 1) (i+1) (bn ((d6 L ms).take (i+1)))/\b.heap[w.heap.size]? =D (Y (eA L.length (B o 0)) 3 (0,0))/\cY iN b (w.heap.size+1) 0 (fun _=>F)/\Below w.heap.size w b | _=>jx w aA (O (D ⟨aK,a3,F⟩) L.length eX) L ms w.heap.size (w.heap.size+1) (w.heap.size+1+1) (i+1) (x 1) b) ?hf (by kernel_rfl) (by kernel_rfl) (fun _=>rfl) (by kernel_rfl) ?hv ⟨bG,ba,bH,bI,bL,bN,b9,bC,cb,cg,ch,aX.drew⟩ ?hA ?bi (fun x b hst=> ?he)
  case hf=>intro x;simp only[aT,Act.put,List.setIfInBounds_toArray,List.set_cons_succ,List.set_cons_zero];exact rfl
  case hv=>
   intro x j t v h
   cases j with
   | zero=>cases h;rfl
   | succ j=>
    cases j with
    | zero=>cases h;rfl
    | succ j=>
     cases j with
     | zero=>cases h;rfl
     | succ j=>
      simp at h
  case hA=>
   intro j x b bp hst;have bp:j<=3:=bp;rcases(show j=0∨j=1∨j=2∨j=3 by omega) with rfl | rfl | rfl | rfl
   ·have N:=R hst
    obtain⟨q0,aZ,bm,ao,ap,av,ay,az,aB,aC,an,E⟩:=hst;iterate 16 refine⟨?_,fun K y=> ?_⟩
    ·trivial
    all_goals try (go_simp;exact y _ N.out;done)
    go_simp;exact aw (bP.out b (T.trans (E.mono T.size))) fun wc s=>y _ ⟨V q0 s,V aZ s,V bm s,V ao s,V ap s,V av s,V ay s,V az s,V aB s,V aC s,V an s,ax E s⟩
   ·have N:=R hst
    obtain⟨q0,aZ,bm,ao,ap,av,ay,az,aB,aC,an,E,g,bw,bq⟩:=hst;iterate 7 refine⟨?_,fun K y=> ?_⟩
    ·trivial
    all_goals try (go_simp;exact y _ N.out;done)
   ·have N:=R hst
    obtain⟨J,aE,bB,bE,bF⟩:=hst;iterate 3 refine⟨?_,fun K y=> ?_⟩
    ·trivial
    all_goals try (go_simp;exact y _ N.out;done)
   ·trivial
  case bi=>
   intro j t x b ht hst af I K y
   cases j with
   | zero=>
    cases ht;cases I
    obtain⟨q0,aZ,bm,ao,ap,av,ay,az,aB,aC,an,E⟩:=hst;go_simp;exact y (O (D ⟨b.heap.size,0,F⟩) 1 1) _ ⟨aD q0 (Y #[B o a.1, B o a.2.1, B o a.2.2] 53),aD aZ (Y #[B o a.1, B o a.2.1, B o a.2.2] 53),aD bm (Y #[B o a.1, B o a.2.1, B o a.2.2] 53),aD ao (Y #[B o a.1, B o a.2.1, B o a.2.2] 53),aD ap (Y #[B o a.1, B o a.2.1, B o a.2.2] 53),aD av (Y #[B o a.1, B o a.2.1, B o a.2.2] 53),aD ay (Y #[B o a.1, B o a.2.1, B o a.2.2] 53),aD az (Y #[B o a.1, B o a.2.1, B o a.2.2] 53),aD aB (Y #[B o a.1, B o a.2.1, B o a.2.2] 53),aD aC (Y #[B o a.1, B o a.2.1, B o a.2.2] 53),aD an (Y #[B o a.1, B o a.2.1, B o a.2.2] 53),E.alloc E.size (Y #[B o a.1, B o a.2.1, B o a.2.2] 53),b.heap.size,R rfl,aQ b (Y #[B o a.1, B o a.2.1, B o a.2.2] 53)⟩
   | succ j=>
    cases j with
    | zero=>
     cases ht;cases I
     obtain⟨q0,aZ,bm,ao,ap,av,ay,az,aB,aC,an,E,g,bw,bq⟩:=hst;have A:=M.out.below E;have a1:=A.ne;refine nv Tryz.underlying54 jm rfl (by decide) (by decide) rfl _ _ rfl w.heap.size c i (bn ((d6 L ms).take i)) [B o a.1, B o a.2.1, B o a.2.2] rfl A.own A.bel.size 1 g bw.out bq rfl (jX _ _ _) (by omega) (fun ci cj h1 ab ag=>y ci cj ?_);rw[<-CZ,<-jl,show(a.1,a.2.1,a.2.2)=a from rfl,<-bY.out] at h1;exact⟨(ag.grown.block _ (am A.cd) (fun e=>a1.1 e.symm)).trans A.cd,h1,(ag.grown.block _ (am A.c8) (fun e=>a1.2.1 e.symm)).trans A.c8,A.map.grown ag.grown (fun e=>a1.2.2 e.symm),A.bel.trans (ab.mono ce)⟩
    | succ j=>
     cases j with
     | zero=>
      cases ht;cases I
      obtain⟨J,aE,bB,bE,bF⟩:=hst;have eu:=J.eu;have cw:=am J;have cr:=J.c2;obtain⟨ck,c1,bv,_⟩:=dd aE;rw[bv] at y;go_simp;refine y U _ ?_;show jx w aA (O (D ⟨aK,a3,F⟩) L.length eX) L ms w.heap.size (w.heap.size+1) (w.heap.size+1+1) (i+1) (x 1) _
      rw[bv] at aE |-;refine⟨J.Cf _,dg aE (fun k b4 e=>dy aE J (by decide) (by rw[b4,e])) 2 _,eV bB (by simp;omega) _, ?_,bF.setCell (by simp only[];omega) _,M.out.ge⟩;exact bE.heap (sf _ _ _ _ (by simp))
     | succ j=>
      simp at ht
  have bl:=hst;have bR:=R bl;clear bl;go_wp2;go_roundw
  case rel=>exact⟨i+1,_,by omega,by go_num,bR⟩
  case measure=>simp[intOf];omega
 obtain rfl:i=L.length:=by omega
 go_wp2;go_ret;exact⟨_,_,_,_,rfl,aH.out⟩
end
section
open Go.RowKit Go.Maps Go.WideElems Go.ChangeMaps
structure sw{y:Type}[DecidableEq y](k:fU y)(G:ac)(b n:Nat)(f:y->Option Int)(a:y)(b6:ae):Prop where
 lt:b < G.heap.size
 look:(e2 k.T (.map (D b)) (k.enc a) Q).run aj G= .ok (.int o ((f a).getD 0)) G
 store:∀v:Int,(Lit.int o v).wf=S->∃ay,(Instr.entryStore k.T (.map (D b)) b6 (.int o v)).run aj G= .ok () ay/\co k ay b (n+1) (dX f a v)/\G.grownBy ay (D b)
section
variable {y:Type} [DecidableEq y] {k:fU y} {w:ac} {b n:Nat} {f:y->Option Int}
theorem o8{w:ac}{b:Nat}{bX:Obj}{I:Array MapEntry}{c:Nat}(h:w.heap[b]? =D (.map I c)):w.grownBy (setBlock w b bX) (D b):=⟨rfl,rfl,rfl,by simp[setBlock],fun i _ al=>heap_setBlock_other h _ (fun e=>al (by rw[e]))⟩
theorem Cg(w:ac)(b:Nat)(af bX:Obj):setBlock (setBlock w b af) b bX=setBlock w b bX:=by simp[setBlock]
theorem co.enter(K:WideMaps.KeyLaw aj k.K)(h:co k w b n f)(hn:n < maxLen){a:y}(M:k.ok a):
  ∃(v0 b6:ae) (G:ac),(ln k.T (.map (D b)) (k.enc a)).run aj w= .ok (.tuple #[v0,b6]) G/\sw k G b n f a b6/\w.grownBy G (D b):=by
 obtain⟨l,av⟩:=k.key a M;have aI:=fun(v:Int) (V:(Lit.int o v).wf=S)=>h.put hn M V;have h0:=h;obtain⟨aU,⟨I,c,E,aA,R,aX⟩,ab,ag⟩:=h;obtain⟨v0,b6,aD,c1,aw,_,hst⟩:=entry_then_store K k.ht oA E aA av;have ao:(setBlock w b (.map aD c1)).heap[b]? =D (.map aD c1):=heap_setBlock_same E _;refine⟨v0,_,_,aw,⟨am ao, ?_, ?_⟩,o8 E⟩
 ·-- what is read there
  rcases K.find w av I.toList aA.keys with ⟨f1,f2⟩ | ⟨j,N,f1,f2,aE⟩
  ·obtain⟨Z,ap,ak,_⟩:=aI 0 (by decide)
   have aB:(DF k.T (.map (D b)) (k.enc a) (.int o 0)).run aj w= .ok () (setBlock w b (.map (I.push ⟨k.enc a, .int o 0,c⟩) (c+1))):=by
    simp[DF,run_underlying k.ht,mu E,K.check w Q av,f1,qe _ E,mv,setBlock]
   have P:(ln k.T (.map (D b)) (k.enc a)).run aj w= .ok (.tuple #[.int o 0,goInt c]) (setBlock w b (.map (I.push ⟨k.enc a, .int o 0,c⟩) (c+1))):=by
    simp[ln,run_underlying k.ht,mu E,K.check w Q av,f1,oA,qe _ E,mv,setBlock]
   rw[aw] at P;rw[ap] at aB;have aM:=(kJ P).2;have an:=(kJ aB).2;rw[aM,<-an];have aC:=ak.gZ M;have aS:(f a).getD 0=0:=by
    have az:=(h0.gZ M);have aG:(e2 k.T (.map (D b)) (k.enc a) Q).run aj w= .ok (.int o 0) w:=by
     simp[e2,run_underlying k.ht,mu E,K.check w _ av,f1,oA,mv]
    rw[az] at aG;have:=(kJ aG).1;simpa using this
   rw[show(dX f a 0 a).getD 0=(f a).getD 0 by rw[aS];simp[dX]] at aC;exact aC
  have aR:I[j]? =D N:=by simpa using f2
  have aT:I.modify j (fun e=>{e with key:=k.enc a})=I:=by
   apply Array.ext'
   rw[Array.toList_modify,wl _ _ _ _ f2];have:({N with key:=k.enc a}:MapEntry)=N:=by rw[<-aE]
   rw[this];exact wo _ _ _ f2
  have P:(ln k.T (.map (D b)) (k.enc a)).run aj w= .ok (.tuple #[N.val,goInt N.born]) (setBlock w b (.map I c)):=by
   simp[ln,run_underlying k.ht,mu E,K.check w Q av,f1,aR,aE,K.stays w av,aT,qe _ E,mv,setBlock]
  rw[aw] at P;rw[(kJ P).2];exact(h0.heap (Z:=setBlock w b (.map I c)) ((heap_setBlock_same E _).trans E.symm)).gZ M
 intro v V;obtain⟨aW,aV,aN,aF⟩:=hst _ (.int o v) ao;obtain⟨Z,ap,ak,_⟩:=aI v V;rw[ap] at aF;have an:=(kJ aF).2;refine⟨_,aN, ?_,o8 ao⟩;rw[Cg,<-an];exact ak
end
theorem o9{a b c:ac}{r:Option Nat}(h:a.grownBy b r)(g:b.grownBy c r):a.grownBy c r:=
 ⟨g.os.trans h.os,g.tape.trans h.tape,g.output.trans h.output,ec h.size g.size,fun k ah aK=>(g.block k (ju ah h.size) aK).trans (h.block k ah aK)⟩
theorem jF{a b:ac}{r:Option Nat}(h:Below a.heap.size a b):a.grownBy b r:=⟨h.os,h.tape,h.output,h.size,fun k ah _=>h.block k ah⟩
section
variable {y:Type} [DecidableEq y]
def wH(k:fU y)(A:ac)(aJ n:Nat)(f:y->Option Int)(a:y)(v:ae)(W:ac):Prop:=∃v0 b6,v= .tuple #[v0,b6]/\sw k W aJ n f a b6/\A.grownBy W (D aJ)
structure sv(k:fU y)(A:ac)(aJ n:Nat)(f:y->Option Int)(a:y)(z:Int)(W:ac):Prop where
 map:co k W aJ (n+1) (dX f a z)
 grown:A.grownBy W (D aJ)
def gN(k:fU y)(A:ac)(aJ n:Nat)(f:y->Option Int)(a:y)(z:Int)(J cR:Bool)(v:ae)(W:ac):Prop:=match cR,J with
 | true,_=>sv k A aJ n f a z W
 | false,S=>wH k A aJ n f a v W
 | false,Q=>Below A.heap.size A W
variable {k:fU y} {A:ac} {aJ n:Nat} {f:y->Option Int} {a:y} {z:Int} {J cR:Bool} {v:ae} {W:ac}
theorem gN.grown(h:gN k A aJ n f a z J cR v W):A.grownBy W (D aJ):=by
 cases cR
 ·cases J
  ·exact jF h
  obtain⟨_,_,_,_,h⟩:=h;exact h
 ·exact sv.grown h
theorem gN.look(h:gN k A aJ n f a z J Q v W)(ar:co k A aJ n f)(M:k.ok a):(e2 k.T (.map (D aJ)) (k.enc a) Q).run aj W= .ok (.int o ((f a).getD 0)) W:=by
 cases J
 ·exact(ar.stay h).gZ M
 obtain⟨_,_,_,h,_⟩:=h;exact h.look
theorem gN.wR(h:gN k A aJ n f a z J cR v W)(h1:J=Q)(ab:cR=Q):Below A.heap.size A W:=by subst h1 ab;exact h
theorem gN.fX{L:Array Bool}{e s i:Nat}{a8:ae}(h:gN k A aJ n f a z (L.getD e Q) (L.getD s Q) v W)(h1:i≠e)(ab:i≠s)(V:a8=v):
  gN k A aJ n f a z ((L.setIfInBounds i S).getD e Q) ((L.setIfInBounds i S).getD s Q) a8 W:=by
 rw[gE h1,gE ab,V];exact h
theorem gN.call{L:Array Bool}{e s i:Nat}{a8:ae}{W':ac}(h:gN k A aJ n f a z (L.getD e Q) (L.getD s Q) v W)(aH:L.getD e Q=Q)(R:L.getD s Q=Q)(h1:i≠e)(ab:i≠s)(E:Below W.heap.size W W'):
  gN k A aJ n f a z ((L.setIfInBounds i S).getD e Q) ((L.setIfInBounds i S).getD s Q) a8 W':=by
 rw[gE h1,gE ab,aH,R];exact ax (gN.wR h aH R) E
theorem gN.stored{L:Array Bool}{e s m:Nat}{a8:ae}{G:ac}(h:gN k A aJ n f a z (L.getD e Q) (L.getD s Q) v W)(hsz:L.size=m)(aO:s < m)(ar:co k G aJ (n+1) (dX f a z))(aP:W.grownBy G (D aJ)):
  gN k A aJ n f a z ((L.setIfInBounds s S).getD e Q) ((L.setIfInBounds s S).getD s Q) a8 G:=by
 rw[set_self hsz aO];exact⟨ar,o9 h.grown aP⟩
end
def lA(ps:List (Nat×Nat))(L:Array Bool):Prop:=∀p ∈ ps,L.getD p.1 Q=S->L.getD p.2 Q=S
theorem lA.start(ps:List (Nat×Nat))(n:Nat):lA ps (eA n Q):=fun p _ h=>by
 rw[getD_replicate_false] at h;cases h
theorem lA.set{ps:List (Nat×Nat)}{L:Array Bool}{i:Nat}(h:lA ps L)(al:∀p ∈ ps,p.1=i->L.getD p.2 Q=S):lA ps (L.setIfInBounds i S):=by
 intro p ai h1;by_cases e:p.1=i
 ·exact getD_set_true (al p ai e)
 rw[gE (fun aL=>e aL.symm)] at h1;exact getD_set_true (h p ai h1)
theorem lA.no{ps:List (Nat×Nat)}{L:Array Bool}{i s:Nat}(h:lA ps L)(ai:(s,i) ∈ ps)(hn:L.getD i S=Q):L.getD s Q=Q:=by
 cases R:L.getD s Q
 ·rfl
 have:=h (s,i) ai R;rw[getD_both hn] at this;cases this
end
section
section
open Go.RowKit Go.Maps Go.WideElems Go.ChangeMaps
theorem zv{z:Int}(h:bj z):∃l,keyOf aj 3 (B o z)=D l:=⟨_,keyOf_int_mk Tryz.underlying3 (nB h)⟩
def mU:fU Int where
 K:=3
 T:=149
 enc z:= B o z
 ok z:=bj z
 law:=int_keyed Tryz.underlying3
 ht:=Tryz.underlying149
 key z h:=zv h
 inj a b h:=by injection h
theorem cY.enter{am an:Type}[DecidableEq am]{k:ke am an}{w:ac}{b n:Nat}{f:am->Option an}(K:WideMaps.KeyLaw aj k.K)(h:cY k w b n f)(hn:n < maxLen){a:am}(ao:k.ok a):
  ∃(b6:ae) (P:ac) (af:Obj),(ln k.T (.map (D b)) (k.enc a)).run aj w= .ok (.tuple #[k.val ((f a).getD k.z),b6]) P/\w.grownBy P (D b)/\P.heap[b]? =D af/\
   ∀(v:an) (G:ac),G.heap[b]? =D af->∃N,(Instr.entryStore k.T (.map (D b)) b6 (k.val v)).run aj G= .ok () N/\cY k N b (n+1) (it f a v)/\G.grownBy N (D b):=by
 obtain⟨l,av⟩:=k.key a ao;have aW:=fun v:an=>h.put hn ao v;have aH:=h.gZ ao;obtain⟨a1,⟨R,c,A,aw,a5,a4⟩,ab,ag⟩:=h;obtain⟨v0,b6,ai,c1,aK,J,hst⟩:=entry_then_store K k.ht k.aI A aw av;have aO:(setBlock w b (.map ai c1)).heap[b]? =D (.map ai c1):=heap_setBlock_same A _;refine⟨goInt b6,setBlock w b (.map ai c1), .map ai c1, ?_,o8 A,aO,fun v G ar=> ?_⟩
 ·rw[aK]
  have E:v0=k.val ((f a).getD k.z):=by
   rcases K.find w av R.toList aw.keys with ⟨f1,f2⟩ | ⟨j,I,f1,f2,aA⟩
   ·have V:(e2 k.T (.map (D b)) (k.enc a) Q).run aj w= .ok (k.val k.z) w:=by
     simp[e2,run_underlying k.ht,mu A,K.check w _ av,f1,k.aI,mv]
    rw[aH] at V;rw[(kJ V).1];rcases J with ⟨I,aP,aT,_⟩ | ⟨_,aN⟩
    ·exact absurd aT (f2 I aP)
    ·exact aN
   have aG:R[j]? =D I:=by simpa using f2
   have V:(e2 k.T (.map (D b)) (k.enc a) Q).run aj w= .ok I.val w:=by
    simp[e2,run_underlying k.ht,mu A,K.check w _ av,f1,aG,mv]
   have aY:R.modify j (fun e=>{e with key:=k.enc a})=R:=by
    apply Array.ext'
    rw[Array.toList_modify,wl _ _ _ _ f2];have:({I with key:=k.enc a}:MapEntry)=I:=by rw[<-aA]
    rw[this];exact wo _ _ _ f2
   have ay:(ln k.T (.map (D b)) (k.enc a)).run aj w= .ok (.tuple #[I.val,goInt I.born]) (setBlock w b (.map R c)):=by
    simp[ln,run_underlying k.ht,mu A,K.check w Q av,f1,aG,aA,K.stays w av,aY,qe _ A,mv,setBlock]
   rw[aK] at ay;rw[aH] at V;have az:=(kJ ay).1;simp at az;rw[az.1,(kJ V).1]
  rw[E]
 obtain⟨a3,a2,aM,aC⟩:=hst G (k.val v) ar;obtain⟨Z,ap,ak,_⟩:=aW v;rw[ap] at aC;have aL:=(kJ aC).2;refine⟨_,aM, ?_,o8 ar⟩;refine ak.heap ?_;rw[heap_setBlock_same ar,aL,heap_setBlock_same A]
end
section
open Go.RowKit Go.Maps
variable {w Z:ac} {s b n:Nat} {f:ah->Option ae} {g:ah->List Nat}
theorem eT.made(w:ac)(s:Nat):eT (w.alloc (.map #[] 0)) s w.heap.size 0 (fun _=>F) (fun _=> []):=
 ⟨cY.made _ _,fun _ _=>rfl,fun t v h=>(by cases h),fun t a0 v a8 _ h=>(by cases h)⟩
theorem eT.of_map(h:cY iN w b n (fun _=>F))(s:Nat):eT w s b n (fun _=>F) (fun _=> []):=
 ⟨h,fun _ _=>rfl,fun t v h=>(by cases h),fun t a0 v a8 _ h=>(by cases h)⟩
theorem eT.below(h:eT w s b n f g)(A:Below w.heap.size w Z):eT Z s b n f g:=
 ⟨h.map.stay A,h.no,fun t v E=>⟨nb (h.row t v E).1 A ce,(h.row t v E).2⟩,h.e6⟩
theorem eT.other(h:eT w s b n f g){r:Nat}(aE:w.grownBy Z (D r))(aX:r≠b)(hn:∀t v,f t=D v->v.ownBlock≠D r):eT Z s b n f g:=
 ⟨h.map.grown aE (fun e=>aX (cn e).symm),h.no,fun t v E=>⟨(h.row t v E).1.kept aE (.inr (hn t v E)),(h.row t v E).2⟩,h.e6⟩
theorem eT.val(h:eT w s b n f g)(t:ah):w.ownsRow s 3 1 ((f t).getD (O F 0 0)) (g t).length (di (g t)):=by
 cases hf:f t with
 | none=>rw[h.no t hf];exact gl _ _ _ _
 | some v=>exact(h.row t v hf).1
theorem eT.put{P G N:ac}(h:eT w s b n f g)(aR:w.grownBy P (D b)){t:ah}{a8:ae}{z:Nat}(aV:G.ownsRow s 3 1 a8 ((g t).length+1) (di (g t++ [z])))(aS:P.grownBy G ((f t).getD (O F 0 0)).ownBlock)
  (aD:a8.ownBlock=((f t).getD (O F 0 0)).ownBlock∨∃q,a8.ownBlock=D q/\w.heap.size<=q) (aU:cY iN N b (n+1) (it f t a8)) (aF:G.grownBy N (D b)) (aJ:∀t v,f t=D v->v.ownBlock≠D b) (aZ:a8.ownBlock≠D b):
  eT N s b (n+1) (it f t a8) (fun x=>if x=t then g t++ [z] else g x):=by
 refine⟨aU,fun x i=> ?_,fun x v i=> ?_,fun x y v u al i M=> ?_⟩
 ·by_cases e:x=t
  ·subst e
   rw[iu] at i;cases i
  rw[hN _ _ e] at i;rw[if_neg e];exact h.no x i
 ·by_cases e:x=t
  ·subst e
   rw[iu] at i;cases i
   rw[if_pos rfl];refine⟨?_,by simp⟩;have:=aV.kept aF (.inr aZ);simpa using this
  rw[hN _ _ e] at i;rw[if_neg e];have h0:=h.row x v i;have h1:=h0.1.kept aR (.inr (aJ x v i));refine⟨(h1.kept aS (.inr ?_)).kept aF (.inr (aJ x v i)),h0.2⟩
  cases hf:f t with
  | none=>intro ak;cases E:v.ownBlock with
   | none=>
     rcases h0.1.2 with ⟨J,av⟩ | ⟨aB,_,_,J,_⟩
     ·have:=h0.2;rw[gm] at av;exact this av
     ·subst J;cases E
   | some q=>rw[E] at ak;cases ak
  | some u=>exact h.e6 x t v u e i hf
 by_cases e:x=t
 ·subst e
  rw[iu] at i;cases i
  rw[hN _ _ (Ne.symm al)] at M;have L:=h.row y u M;intro ak;rcases aD with h1 | ⟨q,h1,ab⟩
  ·cases hf:f x with
   | none=>
    rw[hf] at h1;rw[h1] at ak;rcases L.1.2 with ⟨_,av⟩ | ⟨aB,_,_,J,_⟩
    ·rw[gm] at av
     exact L.2 av
    ·subst J;cases ak
   | some v0=>
    rw[hf] at h1;exact h.e6 x y v0 u al hf M (h1.symm.trans ak)
  rw[h1] at ak;have:=(L.1.lt q ak.symm).2;omega
 rw[hN _ _ e] at i;by_cases ax:y=t
 ·subst ax
  rw[iu] at M;cases M
  have L:=h.row x v i;intro ak;rcases aD with h1 | ⟨q,h1,ab⟩
  ·cases hf:f y with
   | none=>
    rw[hf] at h1;rw[h1] at ak;rcases L.1.2 with ⟨_,av⟩ | ⟨aB,_,_,J,_⟩
    ·rw[gm] at av
     exact L.2 av
    ·subst J;cases ak
   | some v0=>
    rw[hf] at h1;exact h.e6 x y v v0 al i hf (ak.trans h1)
  rw[h1] at ak;have:=(L.1.lt q ak).2;omega
 rw[hN _ _ ax] at M;exact h.e6 x y v u al i M
end
end
section
open Go.RowKit Go.Maps
structure da(w Z:ac)(aF aJ:Nat):Prop where
 os:Z.os=w.os
 tape:Z.tape=w.tape
 output:Z.output=w.output
 size:w.heap.size<=Z.heap.size
 bT:∀k,k < w.heap.size->k≠aF->k≠aJ->Z.heap[k]? =w.heap[k]?
section
variable {w N aW:ac} {aF aJ:Nat}
theorem da.refl(w:ac)(aF aJ:Nat):da w w aF aJ:=⟨rfl,rfl,rfl,ce,fun _ _ _ _=>rfl⟩
theorem da.below(h:da w N aF aJ)(E:Below N.heap.size N aW):da w aW aF aJ:=
 ⟨E.os.trans h.os,E.tape.trans h.tape,E.output.trans h.output,ec h.size E.size,fun k ai h1 ab=>(E.block k (ju ai h.size)).trans (h.bT k ai h1 ab)⟩
theorem da.grown(h:da w N aF aJ){r:Option Nat}(T:N.grownBy aW r)(a9:∀b,r=D b->b=aF∨b=aJ∨w.heap.size<=b):da w aW aF aJ:=
 ⟨T.os.trans h.os,T.tape.trans h.tape,T.output.trans h.output,ec h.size T.size,fun k ai h1 ab=>(T.block k (ju ai h.size) (fun e=>by
  rcases a9 k e.symm with ag | ag | ag
  ·exact h1 ag
  ·exact ab ag
  ·omega)).trans (h.bT k ai h1 ab)⟩
theorem da.set(h:da w N aF aJ)(i:Nat)(v:ae):da w (N.setCell ⟨aF,i,F⟩ v) aF aJ:=
 ⟨h.os,h.tape,h.output,by simpa using h.size,fun k ai h1 ab=>(sf N ⟨aF,i,F⟩ v k h1).trans (h.bT k ai h1 ab)⟩
theorem da.out(h:da w N aF aJ){aU:Nat}(T:aU<=aF)(aX:aU<=aJ)(aK:aU<=w.heap.size):Below aU w N:=
 ⟨h.os,h.tape,h.output,h.size,fun k ai=>h.bT k (by omega) (by omega) (by omega)⟩
theorem da.cell(h:da w N aF aJ){b af:Nat}{v:ae}(hc:w.cell? ⟨b,af,F⟩=D v)(h1:b≠aF)(ab:b≠aJ):N.cell? ⟨b,af,F⟩=D v:=by
 have E:=iS w _ hc;rw[<-hc];exact World.cell?_of_block (h.bT b E h1 ab)
theorem da.il(h:da w N aF aJ){b:Nat}{af:Obj}(hc:w.heap[b]? =D af)(h1:b≠aF)(ab:b≠aJ):N.heap[b]? =D af:=(h.bT b (am hc) h1 ab).trans hc
end
def fO(L:List ah)(sts:List aP)(i q:Nat)(x:ah):List Nat:=
 if (sts.take i).any (fun s=>au (s.1=x))=S then(((sts.take i).find? fun s=>au (s.1=x)).map fun s=>s.2.map L.idxOf).getD []
 else match sts[i]? with
  | some s=>if s.1=x then(s.2.take q).map L.idxOf else []
  | none=> []
def l3(L:List ah)(sts:List aP)(i q:Nat)(J:List Nat):Prop:=∀(j:Nat) (s:aP) (p:Nat) (t:ah),(j < i∨j=i/\p < q)->sts[j]? =D s->s.2[p]? =D t->J[L.idxOf t]? =D p
noncomputable def g6(L:List ah)(sts:List aP)(i q:Nat)(z:Int):Option Int:=open Classical in if ∃t ∈ cv sts i q,((L.idxOf t:Nat):Int)=z then D 1 else F
structure hl(w:ac)(aA:Nat)(aS P:ae)(L:List ah)(sts:List aP)(ar aF aJ i ax ao:Nat)(wr:ac):Prop where
 cd:dP wr ar aA aS P (O (D ⟨aF,0,F⟩) L.length L.length) aJ
 c8:∃J:List Nat,J.length=L.length/\wr.heap[aF]? =D (Y (di J).toArray 3 (0,0))/\l3 L sts i ax J
 map:∃(n:Nat) (f:ah->Option ae),n<=(cv sts i ao).length/\eT wr w.heap.size aJ n f (fO L sts i ao)
 cb:da w wr aF aJ
structure hY(w:ac)(aA:Nat)(aS P:ae)(L:List ah)(ms:List aR)(sts:List aP)(ar aF aJ aB i q:Nat)(wr:ac):Prop where
 inv:eS L ms sts i q
 eR:(cv sts i q).Nodup
 x:hl w aA aS P L sts ar aF aJ i q q wr
 seen:∃n:Nat,n<=(cv sts i q).length/\co mU wr aB n (g6 L sts i q)
section
variable {w wr Z:ac} {aA:Nat} {aS P:ae} {L:List ah} {ms:List aR} {sts:List aP} {ar aF aJ aB i q ax ao:Nat}
theorem hl.below(h:hl w aA aS P L sts ar aF aJ i ax ao wr)(E:Below wr.heap.size wr Z):hl w aA aS P L sts ar aF aJ i ax ao Z:=by
 obtain⟨J,aD,an,aO⟩:=h.c8;obtain⟨n,f,aT,V⟩:=h.map;exact⟨h.cd.below E,⟨J,aD,aG an E (am an),aO⟩,⟨n,f,aT,V.below E⟩,h.cb.below E⟩
theorem hl.other(h:hl w aA aS P L sts ar aF aJ i ax ao wr)(T:wr.grownBy Z (D aB))(aZ:∃a3 c,wr.heap[aB]? =D (.map a3 c))(bc:w.heap.size<=aB)(bh:aJ < w.heap.size):hl w aA aS P L sts ar aF aJ i ax ao Z:=by
 obtain⟨J,aD,an,aO⟩:=h.c8;obtain⟨n,f,aT,V⟩:=h.map;refine⟨(T.block _ (am h.cd) (k1 h.cd aZ)).trans h.cd,⟨J,aD,(T.block _ (am an) (k1 an aZ)).trans an,aO⟩,⟨n,f,aT,V.other T (by omega) fun t v aN=>eN (V.row t v aN).1 aZ⟩,h.cb.grown T (fun b e=>by cases e;exact .inr (.inr bc))⟩
theorem hl.rr(h:hl w aA aS P L sts ar aF aJ i ax ao wr)(a7:aF≠aJ){k r:Nat}(ai:k < L.length){cM:Nat}(aw:∀J:List Nat,J.length=L.length->l3 L sts i ax J->l3 L sts i cM (J.set k r))(bk:aF < w.heap.size):hl w aA aS P L sts ar aF aJ i cM ao (wr.setCell ⟨aF,k,F⟩ (B o ((r:Nat):Int))):=by
 obtain⟨J,aD,an,aO⟩:=h.c8;obtain⟨n,f,aT,V⟩:=h.map;have bd:ar≠aF:=fun e=>by have h1:wr.heap[ar]? =_:=h.cd;rw[e,an] at h1;simp at h1
 refine⟨eV h.cd bd _,⟨J.set k r,by simpa using aD, ?_,aw J aD aO⟩,⟨n,f,aT,⟨V.map.heap (sf _ _ _ _ (fun e=>a7 e.symm)),V.no,fun t v aN=>⟨dg (V.row t v aN).1 (fun b E e=> ?_) _ _,(V.row t v aN).2⟩,V.e6⟩⟩,h.cb.set _ _⟩
 ·have:=bq an k (B o ((r:Nat):Int))
  rw[r6] at this;exact this
 have:=((V.row t v aN).1.lt b E).1;omega
theorem hY.below(h:hY w aA aS P L ms sts ar aF aJ aB i q wr)(E:Below wr.heap.size wr Z):hY w aA aS P L ms sts ar aF aJ aB i q Z:=by
 obtain⟨be,bf,bg⟩:=h.seen;exact⟨h.inv,h.eR,h.x.below E,⟨be,bf,bg.stay E⟩⟩
theorem hY.len(h:hY w aA aS P L ms sts ar aF aJ aB i q wr):(cv sts i q).length<=L.length:=h.inv.uj h.eR
end
theorem yC{L:List ah}{ms:List aR}{sts:List aP}{i:Nat}{s:aP}(y:sts[i]? =D s)(aV:∀(j:Nat) (a:aP),j < i->sts[j]? =D a->a.1≠s.1):fO L sts i s.2.length=fO L sts (i+1) 0:=by
 funext x
 unfold fO;rw[hT,y,List.any_append,List.find?_append];simp only[Option.toList_some,List.any_cons,List.any_nil,Bool.or_false];by_cases h1:(sts.take i).any (fun s=>au (s.1=x))=S
 ·rw[if_pos h1,if_pos (by rw[h1];rfl)]
  cases hf:(sts.take i).find? fun s=>au (s.1=x) with
  | some a=>rfl
  | none=>
   rw[List.find?_eq_none] at hf;obtain⟨a,M,aC⟩:=oE.1 h1;exact absurd aC (hf a M)
 have a4:(sts.take i).any (fun s=>au (s.1=x))=Q:=by rw[<-qa];exact h1
 rw[if_neg h1,a4,Bool.false_or];by_cases ab:s.1=x
 ·rw[if_pos ab,if_pos (decide_eq_true ab)]
  have hf:(sts.take i).find? (fun s=>au (s.1=x))=F:=by
   rw[List.find?_eq_none];intro a M aC;exact h1 (oE.2 ⟨a,M,aC⟩)
  rw[hf];simp[ab]
 rw[if_neg ab,if_neg (by simpa using ab)]
 cases hn:sts[i+1]? with
 | none=>rfl
 | some b=>simp
theorem yD{L:List ah}{sts:List aP}{i q:Nat}{s:aP}{t:ah}(y:sts[i]? =D s)(ht:s.2[q]? =D t)(aV:∀(j:Nat) (a:aP),j < i->sts[j]? =D a->a.1≠s.1):fO L sts i (q+1)=fun x=>if x=s.1 then fO L sts i q s.1++ [L.idxOf t] else fO L sts i q x:=by
 have aY:(sts.take i).any (fun a=>au (a.1=s.1))=Q:=by
  rw[<-qa];intro h;obtain⟨a,M,aC⟩:=oE.1 h;obtain⟨j,R⟩:=fz M;rw[iT] at R
  split at R
  ·exact aV j a (by assumption) R (of_decide_eq_true aC)
  ·cases R
 funext x
 unfold fO;rw[y];by_cases e:x=s.1
 ·subst e
  rw[aY];simp only[Bool.false_eq_true,if_false,if_true];rw[hT,ht,List.map_append];rfl
 have:¬s.1=x:=fun h=>e h.symm;simp only[if_neg e,if_neg this]
theorem Cr{L:List ah}{sts:List aP}{i q:Nat}{s:aP}{t:ah}(y:sts[i]? =D s)(ht:s.2[q]? =D t):dX (g6 L sts i q) ((L.idxOf t:Nat):Int) 1=g6 L sts i (q+1):=by
 funext z
 unfold dX g6;rw[lV y ht];by_cases e:z=((L.idxOf t:Nat):Int)
 ·rw[if_pos e,if_pos ⟨t,by simp,e.symm⟩]
 rw[if_neg e];by_cases h:∃u ∈ cv sts i q,((L.idxOf u:Nat):Int)=z
 ·obtain⟨u,K,aI⟩:=h
  rw[if_pos ⟨u,K,aI⟩,if_pos ⟨u,List.mem_append_left _ K,aI⟩]
 rw[if_neg h,if_neg];rintro⟨u,K,aI⟩;rcases js.1 K with K | K
 ·exact h ⟨u,K,aI⟩
 rw[iy] at K;subst K;exact e aI.symm
theorem vB{L:List ah}{sts:List aP}{i q:Nat}{t:ah}(hL:∀u ∈ cv sts i q,u ∈ L)(ht:t ∈ L):(g6 L sts i q ((L.idxOf t:Nat):Int)).getD 0=if t ∈ cv sts i q then 1 else 0:=by
 unfold g6;by_cases h:t ∈ cv sts i q
 ·rw[if_pos ⟨t,h,rfl⟩,if_pos h]
  rfl
 rw[if_neg h,if_neg];·rfl
 rintro⟨u,K,aI⟩;have h1:L.idxOf u=L.idxOf t:=by exact_mod_cast aI
 have ab:L[L.idxOf u]? =D u:=by rw[bb (gK (hL u K))];exact congrArg D (nJ _)
 have ag:L[L.idxOf t]? =D t:=by rw[bb (gK ht)];exact congrArg D (nJ _)
 rw[h1,ag] at ab;exact h (cn ab▸K)
theorem y8{L:List ah}{a b:ah}(M:a ∈ L)(E:b ∈ L)(h:L.idxOf a=L.idxOf b):a=b:=by
 have ab:L[L.idxOf a]? =D a:=by rw[bb (gK M)];exact congrArg D (nJ _)
 have ag:L[L.idxOf b]? =D b:=by rw[bb (gK E)];exact congrArg D (nJ _)
 rw[h,ag] at ab;exact(cn ab).symm
theorem eS.mem{L:List ah}{ms:List aR}{sts:List aP}{i q:Nat}(h:eS L ms sts i q){t:ah}(ht:t ∈ cv sts i q):t ∈ L:=by
 rcases pv ht with ⟨j,a,R,M,ba⟩ | ⟨s,y,hts⟩
 ·obtain⟨p,aw⟩:=fz ba
  exact(h.ay j a p t (.inl R) M aw).1
 obtain⟨p,aw⟩:=fz hts;rw[iT] at aw
 split at aw
 ·exact(h.ay i s p t (.inr ⟨rfl,by assumption⟩) y aw).1
 ·cases aw
theorem x7{sts:List aP}{i q j p:Nat}{s:aP}{t:ah}(h:j < i∨j=i/\p < q)(y:sts[j]? =D s)(ht:s.2[p]? =D t):t ∈ cv sts i q:=by
 unfold cv;rcases h with h | ⟨rfl,h⟩
 ·refine List.mem_append_left _ (hj.2 ⟨s, ?_,cH ht⟩)
  exact cH (i:=j) (by rw[iT,if_pos h];exact y)
 refine wA _ ?_;rw[y];exact cH (i:=p) (by simp only[Option.map_some,st];rw[iT,if_pos h];exact ht)
theorem Ab{L:List ah}{ms:List aR}{sts:List aP}{i q:Nat}{s:aP}{t:ah}(y:sts[i]? =D s)(ht:s.2[q]? =D t)(al:eS L ms sts i q)(a2:t ∈ L)(hn:t ∉ cv sts i q)(J:List Nat)(av:J.length=L.length)(h:l3 L sts i q J):l3 L sts i (q+1) (J.set (L.idxOf t) q):=by
 intro j a p u R M K;by_cases e:j=i/\p=q
 ·obtain⟨rfl,rfl⟩:=e
  rw[y] at M;cases M
  rw[ht] at K;cases K
  have:=gK a2;simp[av,this]
 have a1:j < i∨j=i/\p < q:=by omega
 have aX:=x7 a1 M K;have a8:L.idxOf t≠L.idxOf u:=fun ak=>hn (by rw[y8 a2 (al.mem aX) ak];exact aX);rw[List.getElem?_set_ne a8];exact h j a p u a1 M K
theorem tH{L:List ah}{sts:List aP}{i q:Nat}{s:aP}(y:sts[i]? =D s)(bi:q<=s.2.length)(aV:∀(j:Nat) (a:aP),j < i->sts[j]? =D a->a.1≠s.1):(fO L sts i q s.1).length=q:=by
 have aY:¬(sts.take i).any (fun a=>au (a.1=s.1))=S:=by
  intro h;obtain⟨a,M,aC⟩:=oE.1 h;obtain⟨j,R⟩:=fz M;rw[iT] at R
  split at R
  ·exact aV j a (by assumption) R (of_decide_eq_true aC)
  ·cases R
 unfold fO;rw[if_neg aY,y];simp;omega
def fG:List aP->List ae->List ae
 | s::aE,v::bx=> B o s.1.1:: B o s.1.2.1:: B o s.1.2.2::v::fG aE bx
 | _,_=> []
theorem nl:∀{aE:List aP} {bx:List ae} {i:Nat} {s:aP} {v:ae},aE[i]? =D s->bx[i]? =D v->(fG aE bx)[i*4]? =D (B o s.1.1)/\(fG aE bx)[i*4+1]? =D (B o s.1.2.1)/\(fG aE bx)[i*4+2]? =D (B o s.1.2.2)/\(fG aE bx)[i*4+3]? =D v
 | [],_,i,s,v,h,_=>by simp at h
 | _::_, [],i,s,v,_,h=>by simp at h
 | a::aE,u::bx,0,s,v,h1,ab=>by
  simp at h1 ab;subst h1 ab;exact⟨rfl,rfl,rfl,rfl⟩
 | a::aE,u::bx,i+1,s,v,h1,ab=>by
  have:=nl (aE:=aE) (bx:=bx) (i:=i) (by simpa using h1) (by simpa using ab);rw[show(i+1)*4=i*4+1+1+1+1 by omega];simpa[fG] using this
structure en(w:ac)(A:Option Addr)(n:Nat)(sts:List aP):Prop where
 len:n=sts.length
 ex:∃bx:List ae,Rd w 4 A n (fG sts bx)/\∀(i:Nat) (s:aP),sts[i]? =D s->∃G I,bx[i]? =D (O G s.2.length I)/\Rd w 3 G s.2.length (bn s.2)/\s.2.length<=140737488351232/\s.2.length<=I/\(G=F->I=0)
 ok:∀s ∈ sts,(bj s.1.1/\bj s.1.2.1/\bj s.1.2.2)/\∀t ∈ s.2,bj t.1/\bj t.2.1/\bj t.2.2
 aL:n<=140737488351232
theorem en.below{w Z:ac}{A:Option Addr}{n:Nat}{sts:List aP}(h:en w A n sts)(E:Below w.heap.size w Z):en Z A n sts:=by
 obtain⟨bx,h1,ab⟩:=h.ex;exact⟨h.len,⟨bx,h1.below E,fun i s y=>by obtain⟨G,I,ag,az,aM⟩:=ab i s y;exact⟨G,I,ag,az.below E,aM⟩⟩,h.ok,h.aL⟩
theorem en.at_{w:ac}{A:Option Addr}{n:Nat}{sts:List aP}(h:en w A n sts){i:Nat}{s:aP}(y:sts[i]? =D s):∃b g G I,A=D ⟨b,g,F⟩/\Rd w 3 G s.2.length (bn s.2)/\
  w.cell? ⟨b,g+i*4,F⟩=D (B o s.1.1)/\w.cell? ⟨b,g+i*4+1,F⟩=D (B o s.1.2.1)/\w.cell? ⟨b,g+i*4+2,F⟩=D (B o s.1.2.2)/\w.cell? ⟨b,g+i*4+3,F⟩=D (O G s.2.length I):=by
 obtain⟨bx,h1,ab⟩:=h.ex;obtain⟨G,I,ag,az,_⟩:=ab i s y;have al:=(bM.1 y).1;obtain⟨b,g,e,_,hc⟩:=h1.2 (by rw[h.len];omega);obtain⟨aH,ap,ak,a0⟩:=nl y ag;refine⟨b,g,G,I,e,az,hc _ _ aH, ?_, ?_, ?_⟩ <;> (rw[qs];exact hc _ _ (by assumption))
theorem en.sF{w:ac}{A:Option Addr}{n:Nat}{sts:List aP}(h:en w A n sts){i:Nat}{s:aP}(y:sts[i]? =D s):∃b g G I,A=D ⟨b,g,F⟩/\b < w.heap.size/\Rd w 3 G s.2.length (bn s.2)/\(s.2.length<=140737488351232/\s.2.length<=I/\(G=F->I=0))/\
  w.cell? ⟨b,g+i*4,F⟩=D (B o s.1.1)/\w.cell? ⟨b,g+i*4+1,F⟩=D (B o s.1.2.1)/\w.cell? ⟨b,g+i*4+2,F⟩=D (B o s.1.2.2)/\w.cell? ⟨b,g+i*4+3,F⟩=D (O G s.2.length I):=by
 obtain⟨bx,h1,ab⟩:=h.ex;obtain⟨G,I,ag,az,aM⟩:=ab i s y;have al:=(bM.1 y).1;obtain⟨b,g,e,E,hc⟩:=h1.2 (by rw[h.len];omega);obtain⟨aH,ap,ak,a0⟩:=nl y ag;refine⟨b,g,G,I,e,E,az,aM,hc _ _ aH, ?_, ?_, ?_⟩ <;> (rw[qs];exact hc _ _ (by assumption))
theorem en.qH{w:ac}{A:Option Addr}{n:Nat}{sts:List aP}(h:en w A n sts){i:Nat}{s:aP}(y:sts[i]? =D s):∃b g G I,A=D ⟨b,g,F⟩/\Rd w 3 G s.2.length (bn s.2)/\(s.2.length<=140737488351232/\s.2.length<=I)/\
  w.cell? ⟨b,g+i*4,F⟩=D (B o s.1.1)/\w.cell? ⟨b,g+i*4+1,F⟩=D (B o s.1.2.1)/\w.cell? ⟨b,g+i*4+2,F⟩=D (B o s.1.2.2)/\w.cell? ⟨b,g+i*4+3,F⟩=D (O G s.2.length I):=by
 obtain⟨bx,h1,ab⟩:=h.ex;obtain⟨G,I,ag,az,a5,a6,_⟩:=ab i s y;have aM:=And.intro a5 a6;have al:=(bM.1 y).1;obtain⟨b,g,e,_,hc⟩:=h1.2 (by rw[h.len];omega);obtain⟨aH,ap,ak,a0⟩:=nl y ag;refine⟨b,g,G,I,e,az,aM,hc _ _ aH, ?_, ?_, ?_⟩ <;> (rw[qs];exact hc _ _ (by assumption))
theorem Rd.pZ{w:ac}{A:Option Addr}{n:Nat}{l:List ah}(h:Rd w 3 A n (bn l)){i:Nat}{t:ah}(ht:l[i]? =D t)(hn:n=l.length):∃b g,A=D ⟨b,g,F⟩/\w.cell? ⟨b,g+i*3,F⟩=D (B o t.1)/\w.cell? ⟨b,g+i*3+1,F⟩=D (B o t.2.1)/\w.cell? ⟨b,g+i*3+2,F⟩=D (B o t.2.2):=by
 have al:=(bM.1 ht).1;obtain⟨b,g,e,_,hc⟩:=h.2 (by omega);have h0:=hc _ _ (ia l i 0 t ht (by decide));have h1:=hc _ _ (ia l i 1 t ht (by decide));have ab:=hc _ _ (ia l i 2 t ht (by decide));rw[show g+(3*i+0)=g+i*3 by omega] at h0;rw[show g+(3*i+1)=g+i*3+1 by omega] at h1;rw[show g+(3*i+2)=g+i*3+2 by omega] at ab;exact⟨b,g,e,h0,h1,ab⟩
end
section
set_option maxRecDepth 100000
open Go.RowKit Go.Maps
variable {a b:ah}
open Classical in
noncomputable def hI(a b:ah):Bool:=au (c3 a b)
theorem od:hI a b=S↔c3 a b:=@decide_eq_true_iff _ (ic _)
theorem po(h:c3 a b):hI a b=S:=od.2 h
theorem rv(h:¬c3 a b):hI a b=Q:=@decide_eq_false _ (ic _) h
theorem t6(a b c x y z:Int)(w:ac):Calls aj 29 #[aq #[B o a, B o b, B o c], aq #[B o x, B o y, B o z]] w fun r Z=>r= .returned (aa (hI (a,b,c) (x,y,z)))/\Below w.heap.size w Z:=by
 have al:=aN (aV w (Y #[B o a, B o b, B o c] 53)) (Y #[B o x, B o y, B o z] 53);obtain⟨I,l⟩:=ai (hI (a,b,c) (x,y,z));rw[<-l];by_cases h1:b=y
 ·subst h1
  by_cases ab:a=x
  ·subst ab
   have E:I=au (c < z):=by
    rw[l];by_cases ag:c < z
    ·rw[decide_eq_true ag];exact po (by unfold c3;simp;omega)
    ·rw[decide_eq_false ag];exact rv (by unfold c3;simp;omega)
   have s:=R E;clear l E;go_in;go_wp2;go_ret;exact⟨cW s.out.symm,al⟩
  have E:I=au (a < x):=by
   rw[l];by_cases ag:a < x
   ·rw[decide_eq_true ag];exact po (by unfold c3;simp;omega)
   ·rw[decide_eq_false ag];exact rv (by unfold c3;simp;omega)
  have s:=R E;clear l E;go_in;go_wp2;go_ret;exact⟨cW s.out.symm,al⟩
 have E:I=au (b < y):=by
  rw[l];by_cases ag:b < y
  ·rw[decide_eq_true ag];exact po (by unfold c3;simp;omega)
  ·rw[decide_eq_false ag];exact rv (by unfold c3;simp;omega)
 have s:=R E;clear l E;go_in;go_wp2;go_ret;exact⟨cW s.out.symm,al⟩
theorem rI(A:Option Addr)(c:Nat)(L:List ah)(t:ah)(w:ac)(ay:Rd w 3 A L.length (bn L))(hL:L.length<=140737488351232):
  Calls aj 30 #[O A L.length c,bK t] w fun r Z=>r= .returned (B o (dU L t))/\Below w.heap.size w Z:=by
 have aD:=aQ w (Y #[B o t.1, B o t.2.1, B o t.2.2] 53);have T:Below w.heap.size w (w.alloc (Y #[B o t.1, B o t.2.1, B o t.2.2] 53)):=aV _ _;obtain⟨af,ap,ak⟩:=dl aD;have aA:=ay.below T;obtain⟨I,l⟩:=ai (dU L t);rw[<-l];obtain⟨av,s⟩:=aY aA l;clear ay aD aA l;go_in
 go_wp2_with fail
 generalize (w.alloc (Y #[B o t.1, B o t.2.1, B o t.2.2] 53))=w0 at af ap ak T av;have ao:w.heap.size < w0.heap.size:=iS _ _ af;go_loopw [5] (fun i wr=>∃j:Nat,j<=L.length/\i= B o j/\Hid (∀d ∈ L.take j,d≠t)/\Below w0.heap.size w0 wr) (fun i _=>L.length-(intOf i).toNat)
 case atStart=>exact⟨0,by omega,rfl,R (by simp),aX⟩
 obtain⟨j,aJ,rfl,hall,G⟩:=hrel;by_cases aM:j < L.length
 ·have aL:(j:Int) < (L.length:Int):=by omega
  have aK:(0:Int)<=(j:Int):=by omega
  obtain⟨u,an⟩:∃u,L[j]? =D u:=⟨_,bb (by omega)⟩;obtain⟨g,k,aI,aE,aF,aG⟩:=(av.out.below G).pZ an rfl;subst aI;have az:∀Z,(binOp .eql 53 (aq #[B o u.1, B o u.2.1, B o u.2.2]) (aq #[B o t.1, B o t.2.1, B o t.2.2])).run aj Z= .ok (aa (au (u=t))) Z:=fun Z=>by
   have h:=n5 u.1 u.2.1 u.2.2 t.1 t.2.1 t.2.2 Z;rw[jE] at h;exact h
  have k0:=c9 af G ao;have aB:=c9 ap G ao;have aC:=c9 ak G ao;have ar:=R an;clear an;by_cases J:u=t
  ·rw[decide_eq_true J] at az
   have N:I=j:=by rw[s.out];exact vb (J▸ar.out) hall.out
   have V:=R N;clear N J
   go_wp2_with fail
   have M:wr.drew.cell? ⟨g,k+j*3,F⟩=D (B o u.1)/\wr.drew.cell? ⟨g,k+j*3+1,F⟩=D (B o u.2.1)/\wr.drew.cell? ⟨g,k+j*3+2,F⟩=D (B o u.2.2)/\wr.drew.cell? ⟨w.heap.size,0,F⟩=D (B o t.1)/\wr.drew.cell? ⟨w.heap.size,1,F⟩=D (B o t.2.1)/\wr.drew.cell? ⟨w.heap.size,2,F⟩=D (B o t.2.2)/\Below w0.heap.size w0 wr.drew:=⟨aE,aF,aG,k0,aB,aC,G.drew⟩
   go_region_held3 (fun Z=>Z.cell? ⟨g,k+j*3,F⟩=D (B o u.1)/\Z.cell? ⟨g,k+j*3+1,F⟩=D (B o u.2.1)/\Z.cell? ⟨g,k+j*3+2,F⟩=D (B o u.2.2)/\Z.cell? ⟨w.heap.size,0,F⟩=D (B o t.1)/\Z.cell? ⟨w.heap.size,1,F⟩=D (B o t.2.1)/\Z.cell? ⟨w.heap.size,2,F⟩=D (B o t.2.2)/\Below w0.heap.size w0 Z)
    (first
     | with_reducible exact M
     | with_reducible assumption)
    (first
     | fail)
   rename_i K
   have am:Below w0.heap.size w0 _:=K.2.2.2.2.2.2;clear M K;go_wp2;go_ret;exact⟨ez V.out.symm,ax T am⟩
  rw[decide_eq_false J] at az;have aw:=oz (P:=fun d:ah=>d≠t) ar.out hall.out J;have aH:=R aw;clear aw J
  go_wp2_with fail
  have M:wr.drew.cell? ⟨g,k+j*3,F⟩=D (B o u.1)/\wr.drew.cell? ⟨g,k+j*3+1,F⟩=D (B o u.2.1)/\wr.drew.cell? ⟨g,k+j*3+2,F⟩=D (B o u.2.2)/\wr.drew.cell? ⟨w.heap.size,0,F⟩=D (B o t.1)/\wr.drew.cell? ⟨w.heap.size,1,F⟩=D (B o t.2.1)/\wr.drew.cell? ⟨w.heap.size,2,F⟩=D (B o t.2.2)/\Below w0.heap.size w0 wr.drew:=⟨aE,aF,aG,k0,aB,aC,G.drew⟩
  go_region_held3 (fun Z=>Z.cell? ⟨g,k+j*3,F⟩=D (B o u.1)/\Z.cell? ⟨g,k+j*3+1,F⟩=D (B o u.2.1)/\Z.cell? ⟨g,k+j*3+2,F⟩=D (B o u.2.2)/\Z.cell? ⟨w.heap.size,0,F⟩=D (B o t.1)/\Z.cell? ⟨w.heap.size,1,F⟩=D (B o t.2.1)/\Z.cell? ⟨w.heap.size,2,F⟩=D (B o t.2.2)/\Below w0.heap.size w0 Z)
   (first
    | with_reducible exact M
    | with_reducible assumption)
   (first
    | fail)
  rename_i K
  have am:Below w0.heap.size w0 _:=K.2.2.2.2.2.2;clear M K;go_wp2;go_roundw
  case rel=>exact⟨j+1,by omega,by go_num,aH,am⟩
  case measure=>simp[intOf];omega
 obtain rfl:j=L.length:=by omega
 have N:I= -1:=by
  rw[s.out];refine vc ?_;have:=hall.out
  rwa [List.take_length] at this
 have V:=R N;clear N;go_wp2;go_ret;exact⟨ez V.out.symm,ax T G⟩
end
section
open Go.RowKit Go.Maps
variable {K i:Nat}{z:Type}
structure bU where
 e:aO
 ay:Nat
 pl:ah
 an:Int
 aH:ah
 kind:Int
 over:Bool
abbrev bP:Type:=aO×Int
theorem ys{f:z->List ae}(A:∀a,(f a).length=K)(l:List z):(l.flatMap f).length=l.length*K:=by
 induction l with
 | nil=>simp
 | cons a l M=>rw[mx,List.length_append,M,A,List.length_cons,sr];omega
theorem i4{f:z->List ae}(A:∀a,(f a).length=K):∀{l:List z} {i:Nat} {s:z} {j:Nat} {u:ae},l[i]? =D s->(f s)[j]? =D u->(l.flatMap f)[i*K+j]? =D u
 | [],_,_,_,_,h,_=>by simp at h
 | a::l,0,s,j,u,h,g=>by
  simp at h;subst h;rw[mx,List.getElem?_append_left (by have:=(bM.1 g).1;omega)];simpa using g
 | a::l,i+1,s,j,u,h,g=>by
  have:=i4 A (l:=l) (i:=i) (by simpa using h) g;rw[mx,List.getElem?_append_right (by rw[A,sr];omega)];rw[<-this]
  congr 1
  rw[A,sr];omega
def kl(c:bU):List ae:= [B o c.e.1, B o c.e.2.1, B o c.e.2.2.1, B o c.e.2.2.2, B o (c.ay:Int), B o c.pl.1, B o c.pl.2.1, B o c.pl.2.2, B o c.an, B o c.aH.1, B o c.aH.2.1, B o c.aH.2.2, B o c.kind, aa c.over]
def hy(l:List bU):List ae:=l.flatMap kl
theorem xL(c:bU):(kl c).length=14:=rfl
theorem s7(c:bU):hy [c]=kl c:=by simp[hy]
theorem s6(l m:List bU):hy (l++m)=hy l++hy m:=by simp[hy]
abbrev cC(c:bU):ae:= aq #[B o c.e.1, B o c.e.2.1, B o c.e.2.2.1, B o c.e.2.2.2, B o (c.ay:Int), B o c.pl.1, B o c.pl.2.1, B o c.pl.2.2, B o c.an, B o c.aH.1, B o c.aH.2.1, B o c.aH.2.2, B o c.kind, aa c.over]
abbrev mC(c:bP):ae:= aq #[B o c.1.1, B o c.1.2.1, B o c.1.2.2.1, B o c.1.2.2.2, B o c.2]
def fM(c:bP):List ae:= [B o c.1.1, B o c.1.2.1, B o c.1.2.2.1, B o c.1.2.2.2, B o c.2]
def cV(l:List bP):List ae:=l.flatMap fM
theorem kj(c:bP):(fM c).length=5:=rfl
theorem kk(l:List bP):(cV l).length=l.length*5:=ys kj l
theorem nZ(l m:List bP):cV (l++m)=cV l++cV m:=by simp[cV]
theorem nY(c:bP):∀u ∈ fM c,u.oneCell'=S:=by
 intro u g;simp only[fM,dC,DG,or_false] at g;rcases g with rfl | rfl | rfl | rfl | rfl <;> rfl
theorem sY(c:bU):∀u ∈ kl c,u.oneCell'=S:=by
 intro u g;simp only[kl,dC,DG,or_false] at g;rcases g with rfl | rfl | rfl | rfl | rfl | rfl | rfl | rfl | rfl | rfl | rfl | rfl | rfl | rfl <;> rfl
def cy:List aP->ah->Int
 | [],_=>-1
 | s::r,t=>if t ∈ s.2 then((s.2.idxOf t:Nat):Int) else cy r t
theorem Ar{sts:List aP}{s:aP}(h:sts[i]? =D s)(t:ah):cy (sts.drop i) t=if t ∈ s.2 then((s.2.idxOf t:Nat):Int) else cy (sts.drop (i+1)) t:=by
 obtain⟨al,e⟩:=bM.1 h;rw[List.drop_eq_getElem_cons al,e];rfl
def be(h:List Int)(i:Int):Int:=h.getD i.toNat 0
def bU.fold(c:bU):Bool:=au (0<=c.an) && au (c.aH=c.pl)
def bU.goes(c:bU):Bool:=au (0<=c.an) && !au (c.aH=c.pl)
def jB(h a b:Int):Bool:=(au (a < h) && au (h < b)) || (au (b < h) && au (h < a))
def dw(h:List Int)(x y:bU):Int:=
 bif x.goes && y.goes && au (be h x.ay < be h y.ay) && au (be h y.an < be h x.an) then 1
 else bif x.fold && y.goes && jB (be h y.ay) (be h x.ay) (be h x.an) then 2
 else bif x.fold && y.fold && !au ((x.ay:Int)=y.an) && (jB (be h y.ay) (be h x.ay) (be h x.an) !=jB (be h y.an) (be h x.ay) (be h x.an)) then 3 else 0
def ij(h:List Int)(c:bU):Bool:=
 c.fold && (bif au (c.kind=2) then au (be h (bif c.over then(c.ay:Int) else c.an) < be h (bif c.over then c.an else(c.ay:Int))) else au (be h (bif c.over then c.an else(c.ay:Int)) < be h (bif c.over then(c.ay:Int) else c.an)))
def fi(a b:bP):Bool:=fD a.1 b.1 || (au (a.1=b.1) && au (a.2 < b.2))
def jS(l:List bP)(c:bP):Nat:=(l.takeWhile fun x=>fi x c).length
def ej(l:List bP)(c:bP):List bP:=if l[jS l c]? =D c then l else l.take (jS l c)++c::l.drop (jS l c)
def io(x y:bU):Bool:=au (x.e=y.e) && au (x.pl=y.pl)
def fH(l:List bU)(h:List Int)(x:bU)(i:Nat)(out:List bP)(k:Nat):List bP:=
 match l[k]? with
 | some y=>bif io x y && !au (i=k) && au (0 < dw h x y) then ej out (x.e,dw h x y) else out
 | none=>out
def gG(l:List bU)(h:List Int)(out:List bP)(i:Nat):List bP:=
 match l[i]? with
 | some x=>(c4 l.length).foldl (fH l h x i) (bif ij h x then ej out (x.e,4) else out)
 | none=>out
def iC(l:List bU)(h:List Int):List bP:=(c4 l.length).foldl (gG l h) []
theorem ni(f:z->Nat->z)(a:z)(k:Nat):(c4 (k+1)).foldl f a=f ((c4 k).foldl f a) k:=by rw[List.range_succ,List.foldl_append];rfl
theorem er{w:ac}{E I n:Nat}{h:List Int}(G:Rd w 1 (D ⟨E,I,F⟩) n (bF h))(al:i < n):w.cell? ⟨E,I+i,F⟩=D (B o (be h i)):=by
 obtain⟨b,N,e,_,hc⟩:=G.2 (by omega);cases e
 have av:=G.k5;have J:i < h.length:=by omega
 have L:(bF h)[i]? =D (B o (be h i)):=by
  unfold be;simp[bF,Int.toNat_natCast,cf,bb J]
 have:=hc _ _ L;simpa using this
end
end Go.Proofs.YteaeipgfjmnecaaGreatDoor

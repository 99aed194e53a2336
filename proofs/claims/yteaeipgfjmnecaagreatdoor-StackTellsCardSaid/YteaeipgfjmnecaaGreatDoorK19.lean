/- Lemmas; each says its own conditions. -/
import Derived.Test.YteaeipgfjmnecaaGreatDoorK17
import Derived.Test.YteaeipgfjmnecaaGreatDoorK18
open And renaming intro->a7
open Bool renaming and_eq_true->cu,false->Q,true->S
open Decidable renaming decide->au
open Go renaming Calls->bB,Value->ae,World->ac,bodyPost_ret->cT,heap_alloc_new->aQ,undef->U
open Go.Act renaming put->a6
open Go.Instr renaming lookup->e2
open Go.IntKind renaming i64->b7
open Go.IntWalk renaming i64_in->ca
open Go.IntKind renaming i64->o
open List renaming append_assoc->nI,exists_mem_of_ne_nil->qj,getD_eq_getElem?_getD->cf,getElem?_eq_getElem->bb,getElem?_set_self->e4,length_map->gM,mem_append->js,mem_flatMap->hj,mem_of_getElem?->cH,mem_of_mem_take->qn,mem_singleton->iy,setIfInBounds_toArray->bd,set_cons_succ->ba,set_cons_zero->bc
open Nat renaming le_trans->ec,lt_of_lt_of_le->ju,zero_add->fT
open Go.Obj renaming cells->Y
open Option renaming isSome_iff_exists->qv,none->F,some->D
open Option.some renaming inj->cn
open Go.Proofs.Tryz renaming prog->aj
open Go.Value renaming agg->aq,bool->aa,func->eO,int->B,pointer->ad,slice->O
namespace Go.Proofs.YteaeipgfjmnecaaGreatDoor
set_option linter.unusedSimpArgs false
set_option linter.unusedVariables false
set_option maxHeartbeats 12800000
section
open Go.RowKit Go.Maps
section
variable (L:List ah) (ms:List aR) (h:List Int) (aU:aO->Option Int)
def m2(x:fc):Bool:=l5 L ms h aU (L.getD x.1 el) (ms.getD x.1 zeroV) x.1 x.2
def mJ(x y:fc):Int:=hx L ms h x.1 x.2 y.1 y.2
def l8(x y:fc):Bool:= !au (x.1=y.1) && au (bA L ms x.1=bA L ms y.1)
def f8(e:aO)(x y:fc):List bP:=bif l8 L ms x y && au (0 < mJ L ms h x y) then [(e,mJ L ms h x y)] else []
def gR(e:aO)(x:fc):List bP:=bif m2 L ms h aU x then [(e,4)] else []
def hC(e:aO)(g:List fc)(x:fc):List bP:=gR L ms h aU e x++g.flatMap (f8 L ms h e x)
def gb(e:aO)(g:List fc):List bP:=g.flatMap (hC L ms h aU e g)
end
theorem sP(L:List ah)(ms:List aR)(h:List Int)(i:Nat)(af:Int)(J:Nat)(bX:Int):0<=hx L ms h i af J bX/\hx L ms h i af J bX<=3:=by
 unfold hx;generalize (gB L ms i af && gB L ms J bX && (au (be h (i:Int) < be h (J:Int)) !=au (be h af < be h bX)))=a;generalize (fA L ms i af && gB L ms J bX && gS (be h (J:Int)) (be h (i:Int)) (be h af))=b;generalize (fA L ms i af && fA L ms J bX && !au ((J:Int)=af) && (gS (be h (J:Int)) (be h (i:Int)) (be h af) !=gS (be h bX) (be h (i:Int)) (be h af)))=c
 revert a b c
 decide
theorem vM{ao a2:Type}{f:ao->List a2}{g:List ao}{a:Nat}{x:ao}(s:g[a]? =D x):(g.take (a+1)).flatMap f=(g.take a).flatMap f++f x:=by
 rw[List.take_add_one,s,List.flatMap_append];simp
structure eC(w:ac)(R z n:Nat)(T:aO->Option ae)(G:aO->List fc)(K:List bP)(wr:ac):Prop where
 fd:∃f:bP->Option Int,co k6 wr z n f/\(∀c,(f c).isSome=S↔c ∈ K)/\∀c,0<=(f c).getD 0/\(f c).getD 0<=(n:Int)
 row:∀e v,T e=D v->wr.ownsRow R 106 2 v (G e).length (hK (G e))
 bel:Below w.heap.size w wr
 ge:w.heap.size<=z
section
variable {w wr Z:ac} {R z n:Nat} {T:aO->Option ae} {G:aO->List fc} {K:List bP}
theorem eC.below(h:eC w R z n T G K wr)(aB:Below wr.heap.size wr Z):eC w R z n T G K Z:=by
 obtain⟨f,h1,ab,ag⟩:=h.fd;exact⟨⟨f,h1.stay aB,ab,ag⟩,fun e v ak=>bo (h.row e v ak) aB,stay_b' h.bel aB,h.ge⟩
where stay_b' {a b c:ac} (h:Below a.heap.size a b) (g:Below b.heap.size b c):Below a.heap.size a c:=h.trans (g.mono h.size)
theorem eC.n8(h:eC w R z n T G K wr){aG:List bP}(e:∀c,c ∈ K↔c ∈ aG):eC w R z n T G aG wr:=by
 obtain⟨f,h1,ab,ag⟩:=h.fd;exact⟨⟨f,h1,fun c=>(ab c).trans (e c),ag⟩,h.row,h.bel,h.ge⟩
theorem eC.walk(h:eC w R z n T G K wr){r:Nat}(I:wr.grownBy Z (D r))(aw:∀cs t q,wr.heap[r]? ≠D (.cells cs t q))(hF:z≠r)(aZ:w.heap.size<=r):eC w R z n T G K Z:=by
 obtain⟨f,h1,ab,ag⟩:=h.fd;refine⟨⟨f,h1.heap (I.block z h1.lt (fun e=>hF (cn e))),ab,ag⟩,fun e v ak=>(h.row e v ak).kept I (.inr fun aA=> ?_),h.bel.grown I h.bel.size (fun k e=>by cases e;exact aZ),h.ge⟩;obtain⟨cs,hc⟩:=im (h.row e v ak) r aA;exact aw _ _ _ hc
theorem co.rk{ao:Type}{k:fU ao}{w:ac}{b n:Nat}{f:ao->Option Int}(h:co k w b n f):∃ap c,w.heap[b]? =D (.map ap c):=by
 obtain⟨a3,⟨ap,c,h1,_⟩,_⟩:=h;exact⟨ap,c,h1⟩
theorem eC.put(h:eC w R z n T G K wr){f:bP->Option Int}{c:bP}{aM:ac}(hf:∀c,(f c).isSome=S↔c ∈ K)(ak:∀c,0<=(f c).getD 0/\(f c).getD 0<=(n:Int))(aS:wr.grownBy aM (D z))(aT:aM.grownBy Z (D z))(aX:co k6 wr z n f)(V:co k6 Z z (n+1) (dX f c ((f c).getD 0+1))):eC w R z (n+1) T G (K++ [c]) Z:=by
 have I:=o9 aS aT;obtain⟨ap,cc,aY⟩:=aX.rk;refine⟨⟨_,V,fun d=> ?_,fun d=> ?_⟩,fun e v ak=>(h.row e v ak).kept I (.inr fun aA=> ?_),h.bel.grown I h.bel.size (fun k e=>by cases e;exact h.ge),h.ge⟩
 ·unfold dX
  by_cases e:d=c
  ·subst e
   simp
  rw[if_neg e,hf d,js,iy];exact⟨.inl,fun g=>g.resolve_right e⟩
 ·unfold dX
  by_cases e:d=c
  ·subst e
   have:=ak d;simp;omega
  rw[if_neg e];have:=ak d;omega
 obtain⟨cs,hc⟩:=im (h.row e v ak) z aA;rw[aY] at hc;cases hc
end
theorem ym{L:List ah}{ms:List aR}{h:List Int}{aU:aO->Option Int}{cs:List bw}(hf:nT L ms h aU cs)(aP:eQ L F cs=S){aE:List aO}(aF:∀e,c5 (d4 L ms cs (L.length*3)) (L.length*3) e≠ []->e ∈ aE)(c:bP):
  c ∈ aE.flatMap (fun e=>gb L ms h aU e (c5 (d4 L ms cs (L.length*3)) (L.length*3) e))↔nS (d4 L ms cs (L.length*3)) h c:=by
 obtain⟨l,av⟩:=ai (d4 L ms cs (L.length*3));have a4:l.length=L.length*3:=by rw[av,oZ]
 have I:∀e x,x ∈ c5 l (L.length*3) e↔∃c ∈ l,c.e=e/\x=(c.ay,c.an):=fun e x=>by
  rw[n9,List.take_of_length_le (by omega)]
 have aI:∀x ∈ l,m2 L ms h aU (x.ay,x.an)=l9 h x:=by
  intro x s;rw[av] at s;obtain⟨i,k,al,aD,rfl⟩:=ig s;have ht:=bb al;unfold m2;rw[show L.getD (c0 L ms cs i k).ay el=L[i] from by rw[cf];show(L[i]?).getD el=_;rw[ht];rfl];exact AD hf.eR hf.bL hf.d9 aP ht aD
 have aH:∀x ∈ l,∀y ∈ l,mJ L ms h (x.ay,x.an) (y.ay,y.an)=ip h x y:=by
  intro x s y E;rw[av] at s E;obtain⟨i,k,al,aD,rfl⟩:=ig s;obtain⟨J,aK,aV,aW,rfl⟩:=ig E;exact xi L ms cs h i k J aK
 have aJ:∀x ∈ l,∀y ∈ l,l8 L ms (x.ay,x.an) (y.ay,y.an)=S↔x.ay≠y.ay/\x.pl=y.pl:=by
  intro x s y E;rw[av] at s E;obtain⟨i,k,al,aD,rfl⟩:=ig s;obtain⟨J,aK,aV,aW,rfl⟩:=ig E;simp only[l8,cu,Bool.not_eq_true',decide_eq_true_eq,decide_eq_false_iff_not];exact Iff.rfl
 rw[<-av] at aF |-;constructor
 ·intro hc
  obtain⟨e,aC,hc⟩:=hj.1 hc;obtain⟨aL,M,hc⟩:=hj.1 hc;obtain⟨x,s,am,rfl⟩:=(I e aL).1 M;rcases js.1 hc with hc | hc
  ·unfold gR at hc
   rw[aI x s] at hc
   cases V:l9 h x with
   | false=>rw[V] at hc;simp at hc
   | true=>
    rw[V] at hc;simp only[cond_true,iy] at hc;exact .inl ⟨x,s,V,by rw[hc,am]⟩
  obtain⟨A,ar,hc⟩:=hj.1 hc;obtain⟨y,E,a0,rfl⟩:=(I e A).1 ar;unfold f8 at hc;rw[aH x s y E] at hc
  cases P:(l8 L ms (x.ay,x.an) (y.ay,y.an) && au (0 < ip h x y)) with
  | false=>rw[P] at hc;simp at hc
  | true=>
   rw[P] at hc;simp only[cond_true,iy] at hc;rw[cu,decide_eq_true_eq,aJ x s y E] at P;exact .inr ⟨x,s,y,E,by rw[am,a0],P.1.1,P.1.2,P.2,by rw[hc,am]⟩
 rintro(⟨x,s,V,rfl⟩ | ⟨x,s,y,E,aC,ht,hp,h0,rfl⟩)
 ·have M:=(I x.e (x.ay,x.an)).2 ⟨x,s,rfl,rfl⟩
  refine hj.2 ⟨x.e,aF _ (fun e=>by rw[e] at M;simp at M),hj.2 ⟨_,M,js.2 (.inl ?_)⟩⟩;unfold gR;rw[aI x s,V];simp
 have M:=(I x.e (x.ay,x.an)).2 ⟨x,s,rfl,rfl⟩;have ar:=(I x.e (y.ay,y.an)).2 ⟨y,E,aC.symm,rfl⟩;refine hj.2 ⟨x.e,aF _ (fun e=>by rw[e] at M;simp at M),hj.2 ⟨_,M,js.2 (.inr (hj.2 ⟨_,ar, ?_⟩))⟩⟩;unfold f8;rw[aH x s y E,(aJ x s y E).2 ⟨ht,hp⟩,decide_eq_true h0];simp
theorem yn{L:List ah}{ms:List aR}{h:List Int}{aU:aO->Option Int}{l:List bU}{N:Nat}{aE:List aO}{ax:List bP}(hn:ax.Nodup)(aw:∀c ∈ ax,c ∈ aE.flatMap (fun e=>gb L ms h aU e (c5 l N e))):ax.length<=l.length*4:=by
 have h1:∀c ∈ ax,c ∈ l.flatMap (fun x=> [(x.e,1),(x.e,2),(x.e,3),((x.e,4):bP)]):=by
  intro c hc;obtain⟨e,aC,hc⟩:=hj.1 (aw c hc);obtain⟨aL,M,hc⟩:=hj.1 hc;obtain⟨x,s,am,rfl⟩:=n9.1 M;refine hj.2 ⟨x,qn s, ?_⟩;rcases js.1 hc with hc | hc
  ·unfold gR at hc
   cases V:m2 L ms h aU (x.ay,x.an) with
   | false=>rw[V] at hc;simp at hc
   | true=>
    rw[V] at hc;simp only[cond_true,iy] at hc;rw[hc,<-am];simp
  obtain⟨A,ar,hc⟩:=hj.1 hc;unfold f8 at hc
  cases P:(l8 L ms (x.ay,x.an) A && au (0 < mJ L ms h (x.ay,x.an) A)) with
  | false=>rw[P] at hc;simp at hc
  | true=>
   rw[P] at hc;simp only[cond_true,iy] at hc;rw[cu,decide_eq_true_eq] at P;have ag:=sP L ms h x.ay x.an A.1 A.2;have az:0 < hx L ms h x.ay x.an A.1 A.2:=P.2;rw[hc,<-am];have aN:mJ L ms h (x.ay,x.an) A=hx L ms h x.ay x.an A.1 A.2:=rfl;rw[aN];have:hx L ms h x.ay x.an A.1 A.2=1∨hx L ms h x.ay x.an A.1 A.2=2∨hx L ms h x.ay x.an A.1 A.2=3:=by omega
   rcases this with e | e | e <;> rw[e] <;> simp
 have ab:=ik hn h1;have ag:(l.flatMap (fun x=> [(x.e,1),(x.e,2),(x.e,3),((x.e,4):bP)])).length=l.length*4:=by
  clear h1 ab aw hn
  induction l with
  | nil=>rfl
  | cons a l a1=>rw[List.flatMap_cons,List.length_append,a1];simp;omega
 omega
end
section
set_option maxRecDepth 100000
open Go.RowKit Go.Maps Go.Sort Go.Shelf
theorem uy{w:ac}{g n c f9:Nat}{l:List fc}(h:w.ownsRow f9 106 2 (O (D ⟨g,0,F⟩) n c) n (hK l)){j:Nat}{x:fc}(a8:l[j]? =D x):w.cell? ⟨g,j*2,F⟩=D (.int o (x.1:Int))/\w.cell? ⟨g,j*2+1,F⟩=D (.int o x.2):=
 ⟨fy (Rd.dB h) (i4 (j:=0) ux a8 rfl),fy (Rd.dB h) (i4 (j:=1) ux a8 rfl)⟩
theorem xx(q:ho)(L:List ah)(ms:List aR)(h:List Int)(aU:aO->Option Int)(cs:List bw)(w:ac)(eN:fe q L ms h aU w)(bq:Steps w)(hf:nT L ms h aU cs)(gX:eQ L F cs=S):
  bB aj 15 #[ad (D ⟨q.ar,0,F⟩)] w fun r Z=>∃v az,r= .returned v/\ie az/\(∀c,c ∈ az↔nS (d4 L ms cs (L.length*3)) h c)/\az.length<=100000/\Z.ownsRow w.heap.size 44 5 v az.length (cV az)/\Below w.heap.size w Z:=by
 have hQ:=hf.small;have dq:=aV w (.map #[] 0);have et:=AB q L ms h aU cs (w.alloc (.map #[] 0)) (eN.below dq) (bq.below dq) hf;have ey:=fun(aE:List aO) dC c=>ym hf gX (aE:=aE) dC c;obtain⟨l,av⟩:=ai (d4 L ms cs (L.length*3));rw[<-av] at et ey |-;have fQ:l.length=L.length*3:=by rw[av,oZ]
 have fD:∀c ∈ l,c.ay < L.length/\c.an < (L.length:Int)/\kr.ok c.e:=by
  intro c hc;rw[av] at hc;obtain⟨i,k,al,fL,rfl⟩:=ig hc;refine⟨al, ?_, ?_⟩;·rcases sZ L ms cs i k with e | ⟨j,bn,e⟩ <;> rw[e] <;> omega
  have ht:=bb al;have cR:ms[i]? =D (ms[i]'(by rw[hf.maps.len];exact al)):=bb _;have dt:ms.getD i zeroV=ms[i]'(by rw[hf.maps.len];exact al):=by rw[cf,cR];rfl
  have cQ:=(hf.maps.may i al).1;rw[n0 ht];exact uC (gA (hJ cQ) (by omega)) ((hf.bL _ (cH ht)).iI fL)
 obtain⟨eX,ei,du,ea,gr,fg,e6,e3⟩:=l1 et eN bq hf ey fQ fD dq;have g7:=@run_makeMap aj;have aA:Hid (co k6 (w.alloc (.map #[] 0)) w.heap.size 0 (fun _=>F)):=R (co.made k6 w);have f4:(w.alloc (.map #[] 0)).heap.size=w.heap.size+1:=by simp
 have cx:=R f4;clear et eN bq hf ey av fQ fD dq f4;go_in;go_upto_region 2 with fail
 clear g7;generalize w.alloc (.map #[] 0)=w1 at eX e3 aA cx |-
 go_wp2_with (first
  | (go_at_call 48;refine eX.out.mono ?_;rintro r aZ ⟨rfl,g6,fC⟩;obtain⟨bT,P,g9,dl⟩:=g6;rw[cx.out] at dl |-;obtain⟨bX,fU,fw,hl,fO⟩:=dl.map;have dc:=R fC;have di:=R dl;have d9:=R fw;have hw:=R fO;clear fC g9 dl fw fO)
  | (at_range;refine wpList_range_own _ rfl _ 102 rfl 42 104 kr.law Tryz.underlying102 _ (w.heap.size+1) bT _ rfl fU ?_;intro f7 fY b3 hR)
  | fail)
 go_frame
 have dw:Below aZ.heap.size aZ f7:=⟨b3.os,b3.tape,b3.output,b3.size,fun j bn=>b3.block j bn (fun e=>by cases e)⟩;have hS:w.heap.size+1<=aZ.heap.size:=by have:=dc.out.size;rw[cx.out] at this;exact this
 have fu:eC w (w.heap.size+1) w.heap.size 0 P (c5 l (L.length*3)) [] f7:=⟨⟨_,((aA.out.below dc.out (by rw[cx.out];omega)).stay dw),fun c=>by simp,fun c=>by simp⟩,fun e v hv=>nb (di.out.row e v hv).1 dw ce,e3.out.trans ((dc.out.trans (dw.mono dc.out.size)).mono (by rw[cx.out];omega)),ce⟩;obtain⟨e5,e7⟩:=aY fu (gq.start d9.out.keys);clear fu fU aA dw
 go_loopw [15] (fun _ wr=>∃(left:Lit->Bool) (fr:Nat) (aE:List aO) (n:Nat),n<=aE.length*9003000/\wr.ranges aj 42 iQ (w.heap.size+1) aZ.heap.size bT bX left fr/\Hid (gq kr.toKD bX (fun a=>(P a).isSome=S) left aE)/\Hid (eC w (w.heap.size+1) w.heap.size n P (c5 l (L.length*3)) (aE.flatMap (fun e=>gb L ms h aU e (c5 l (L.length*3) e))) wr))
  (fun _ wr=>wr.rangeLeft (w.heap.size+1) aZ.heap.size)
 case atStart=>exact⟨_,_, [],0,by simp,fY,e7,e5⟩
 clear e5 e7 b3 fY;obtain⟨left,fr,aE,n,hn,T,bG,aK⟩:=hrel;have gw:Hid (aE.length<=3000):=R (by
  have h1:=ik bG.out.nodup (l:=l.map (·.e)) (fun e he=>by
   obtain⟨v,hv⟩:=qv.1 (bG.out.ok e he).2;obtain⟨x,a8⟩:=qj _ (di.out.row e v hv).2;obtain⟨c,hc,cI,_⟩:=n9.1 a8;exact List.mem_map.2 ⟨c,qn hc,cI⟩)
  have ab:=fg.out;simp at h1;omega)
 obtain⟨cA,dk⟩:=ai (aE.length*9003000);have hD:cA<=27009000000:=by rw[dk];exact ec (Nat.mul_le_mul_right 9003000 gw.out) (by decide)
 rw[<-dk] at hn;have gi:=R dk;clear dk
 go_wp2_with (first
  | (at_next;refine wpList_next_ranges _ rfl _ rfl 42 kr.law iQ id id (fun key cb fL=>⟨key,rfl⟩) (fun v _ _=>⟨v,rfl⟩) (w.heap.size+1) aZ.heap.size bT _ _ _ rfl T ?_ ?_)
  | fail)
 ·-- nothing is left
  intro hM g5;have dC:∀e,c5 l (L.length*3) e≠ []->e ∈ aE:=fun e he=>by
   have bq:(P e).isSome=S:=by
    rcases g1:P e with _ | v
    ·exact absurd (di.out.no e g1) he
    ·rfl
   refine bG.out.done g5 ?_ bq;obtain⟨x,a8⟩:=qj _ he;obtain⟨c,hc,cI,_⟩:=n9.1 a8;exact cI▸(e6.out c (qn hc)).2.2
  have eL:=gr.out aE dC;obtain⟨fd,eH,dr,bJ⟩:=aK.out.fd;obtain⟨ge,fV,fM⟩:=eH.zz;have fF:∀c,(fd c).isSome=S->gd.ok c:=by
   obtain⟨_,_,_,hl,_,ab,ag,_⟩:=eH;exact fun c hc=>ag c ((ab c).1 hc)
  have fz:∀az:List bP,az.Nodup->(∀a ∈ az,gd.ok a/\(fd a).isSome=S)->az.length<=100000:=fun az hn fB=>by
   have h1:=yn (L:=L) (ms:=ms) (h:=h) (aU:=aU) (l:=l) (N:=L.length*3) (aE:=aE) hn (fun c hc=>(dr c).1 (fB c hc).2);have:=fg.out;omega
  obtain⟨aP,rfl⟩:=ai wr;have b4:(aP.alloc (Y #[.map (D w.heap.size)] 101)).cell? ⟨aP.heap.size,0,F⟩=D (.map (D w.heap.size)):=(aB (aQ aP (Y #[.map (D w.heap.size)] 101)) 0).trans rfl;have fq:=(callsIn_wide (n:=6)).1 (zy Fence.wide 6 trivial rfl (D w.heap.size) aP);have cS:=(callsIn_wide (n:=6)).1 (Cy 6 100 #[ad (D ⟨aP.heap.size,0,F⟩)] (enters_of Tryz.func100 (by kernel_rfl) rfl) _ 100000 (aP.alloc (Y #[.map (D w.heap.size)] 101)) (by omega) (by omega) (zx Fence.wide 3 trivial rfl (by omega) aP.heap.size w.heap.size n 100000 ge _ fM fz (aP.alloc (Y #[.map (D w.heap.size)] 101)) (by simp) b4 (fV.alloc _)));obtain⟨ga,gc,d8⟩:=cq fq cS aK.out.bel;have gh:Hid (∀c,gd.ok c/\(fd c).isSome=S↔nS l h c):=R (fun c=>⟨fun hc=>(eL c).1 ((dr c).1 hc.2),fun hc=>have bq:=(dr c).2 ((eL c).2 hc);⟨fF c bq,bq⟩⟩)
  clear dC eL eH dr bJ fV fM fF fz b4 fq cS aK bG T
  go_wp2_with (first
   | (go_at_call 52;refine aw ga.out fun da f5=> ?_;rw[f5])
   | (go_at_call 51;refine gc.out.mono ?_;rintro e da ⟨v,az,rfl,f1,f2,aF,bk⟩;have fo:=R f1;have gu:=R aF;have ch:=R bk;have gv:=R f2;clear f1 aF bk f5 f2)
   | fail)
  have fP:(hO az).length=az.length:=(pR az).length_eq;have gU:Below aP.heap.size aP da:=(aV aP _).trans (ch.out.mono (by simp));exact cT (v:=v) (by simp[results,Tryz.results15,go_sem]) rfl ⟨v,hO az,rfl,CB fo.out.nodup,fun c=>((pR az).mem_iff.trans (fo.out.mem c)).trans (gh.out c),by rw[fP];exact gv.out,by rw[fP];exact dn gu.out (ec d8.out.size (by simp)),d8.out.trans (gU.mono d8.out.size)⟩
 -- an edge has come
 intro hu a1 cb h3 h4 c9 cB fN b5 hv _ eD fZ fR a3 hb g0;obtain⟨e,f6,dz,ez,ha,eB⟩:=bG.out.bl d9.out.keys fN b5 eD;have fv:=bG.out.step dz ez ha eB;obtain⟨v0,bJ⟩:=qv.1 ez;have gY:a1=v0:=by
  have h1:=eD (.map []);rw[d9.out.at_ e cb v0 dz eB bJ] at h1;rw[<-hv] at h1;exact(DataW.held.inj h1).symm
 subst gY;have fK:=rN T;have fx:w.heap.size≠aZ.heap.size:=by omega
 have ex:=aK.out.walk a3 fK fx (by omega);have aF:=ex.row e a1 bJ;have eK:=(di.out.row e a1 bJ).2;obtain⟨g,cK⟩:=ai (c5 l (L.length*3) e);rw[<-cK] at aF eK;have g3:g.length<=3000:=by have h1:=ra l (L.length*3) e;rw[<-cK] at h1;omega
 have fI:∀x ∈ g,x.1 < L.length/\x.2 < (L.length:Int):=by
  intro x a8;rw[cK] at a8;obtain⟨c,hc,_,rfl⟩:=n9.1 a8;have:=e6.out c (qn hc);exact⟨this.1,this.2.1⟩
 obtain⟨hy,hz,hB,cI,_,_,hN,g2⟩:=dF aF (List.length_pos_iff.2 eK);subst cI;have hk:hu=bS e:=f6;subst hk;obtain⟨gg,fa,e1,eb,fb,bh,fm,gl,gj⟩:=jG fv bJ ex cK fI dz fZ fR T;clear fv bJ ex cK fI dz fZ fR aK bG aF eK f6 ez eB fN b5 eD hv a3 hb g2 fK fx T;go_upto_region 5 with fail
 clear g0;have e8:=aQ c9 (Y #[.int o e.1, .int o e.2.1, .int o e.2.2.1, .int o e.2.2.2] 42);have eE:=aV c9 (Y #[.int o e.1, .int o e.2.1, .int o e.2.2.1, .int o e.2.2.2] 42);have ft:=e1.out.below eE;have f0:=fm.out.kept (jF (r:=F) eE) (fun e=>by cases e) (fun e=>by cases e);obtain⟨aC,bm⟩:=ai (c9.heap.size);rw[<-bm] at e8 |-;have ek:=R f0;have d6:Hid (eC w (w.heap.size+1) w.heap.size n P (c5 l (L.length*3)) ((aE.flatMap (fun e=>gb L ms h aU e (c5 l (L.length*3) e)))++(g.take 0).flatMap (hC L ms h aU e g)) (c9.alloc (Y #[.int o e.1, .int o e.2.1, .int o e.2.2.1, .int o e.2.2.2] 42))):=R (by rw[List.take_zero,List.flatMap_nil,List.append_nil];exact ft);have bZ:=R e8;clear e8 eE ft f0 bm;generalize c9.alloc (Y #[.int o e.1, .int o e.2.1, .int o e.2.2.1, .int o e.2.2.2] 42)=w4 at ek d6 bZ |-
 go_wp2_with fail
 go_loopw [22] (fun v wr=>∃(a n:Nat),a<=g.length/\v= .int o a/\n<=cA+a*3001/\Hid (wr.ranges aj 42 iQ (w.heap.size+1) aZ.heap.size bT bX (fun z=>left z && !z.sameKey cb) cB)/\Hid (eC w (w.heap.size+1) w.heap.size n P (c5 l (L.length*3)) ((aE.flatMap (fun e=>gb L ms h aU e (c5 l (L.length*3) e)))++(g.take a).flatMap (hC L ms h aU e g)) wr)/\Hid (wr.heap[aC]? =D (Y #[.int o e.1, .int o e.2.1, .int o e.2.2.1, .int o e.2.2.2] 42 (0,0)))) (fun v _=>g.length-(intOf v).toNat)
 case atStart=>exact⟨0,n,by omega,rfl,by omega,ek,d6,bZ⟩
 clear ek d6 bZ e1 fm hn n;obtain⟨a,n,fB,rfl,hn,T,aK,aI⟩:=hrel;by_cases gV:a < g.length
 ·obtain⟨A,dx⟩:∃x,g[a]? =D x:=⟨_,bb gV⟩
  have aF:=aK.out.row e _ fa.out;rw[<-eb.out] at aF;obtain⟨c3,c4⟩:=uy aF dx;have b8:=fb.out A (cH dx);obtain⟨t,ht⟩:∃t,L[A.1]? =D t:=⟨_,bb b8.1⟩;obtain⟨m,cR⟩:∃m,ms[A.1]? =D m:=⟨_,bb (by rw[ea.out.maps.len];exact b8.1)⟩;have dt:ms.getD A.1 zeroV=m:=by rw[cf,cR];rfl
  have fJ:L.getD A.1 el=t:=by rw[cf,ht];rfl
  have cQ:=(ea.out.maps.may A.1 b8.1).1;rw[dt] at cQ;have ev:=fun(W:ac) (cF:Below w.heap.size w W)=>AF q L ms h aU A.1 t m A.2 W (ei.out.below cF) (du.out.below cF) ht (ea.out.bL t (cH ht)) cR (us cQ).1 b8.2;obtain⟨aJ,eJ⟩:=ai (m2 L ms h aU A);have fS:l5 L ms h aU t m A.1 A.2=aJ:=by rw[eJ];unfold m2;rw[dt,fJ]
  simp only[fS] at ev;obtain⟨eZ,fh,gm,eq⟩:=df ev eJ dx b8;have hG:(a:Int) < (g.length:Int):=by omega
  have hE:(0:Int)<=(a:Int):=by omega
  obtain⟨J,bR⟩:=ai (A.1);obtain⟨cg,eT⟩:=ai (A.2);rw[<-bR] at c3;rw[<-eT] at c4;obtain⟨dj,fp⟩:=aY bR eT;obtain⟨dH,rfl⟩:=ai wr;clear dx aF b8 ht cR dt fJ cQ ev eJ fS bR eT;go_upto_region 8 with fail
  have dE:=aQ dH (Y #[.int o (J:Int), .int o cg] 106);have dp:=aV dH (Y #[.int o (J:Int), .int o cg] 106);obtain⟨dd,em,dg⟩:=cq (aK.out.below dp) (T.out.kept (jF (r:=F) dp) (fun e=>by cases e) (fun e=>by cases e)) (aG aI.out dp (am aI.out));obtain⟨bF,fG⟩:=ai (dH.heap.size);rw[<-fG] at dE |-;have bt:=R dE;obtain⟨bU,bV⟩:=d7 dE;clear dE dp fG aK T aI c3 c4;generalize dH.alloc (Y #[.int o (J:Int), .int o cg] 106)=aP at dd em dg bt bU bV |-;have eu:=eZ.out aP dd.out.bel;rw[<-dj.out,<-fp.out] at eu;have eY:=R eu;clear eu eZ;go_upto_if 28 with (go_at_call 49;refine aw eY.out fun da bk=> ?_;have ch:=R (dd.out.below bk);have en:=R (em.out.kept (jF (r:=F) bk) (fun e=>by cases e) (fun e=>by cases e));have bg:=R (aG dg.out bk (am dg.out));have bv:=R (aG bt.out bk (am bt.out));clear bk eY dd em dg bt bU bV)
  go_cut [22] from 22 to 81 (fun v be=>v= .int o (a:Int)/\∃br,br<=cA+a*3001+1/\Hid (be.ranges aj 42 iQ (w.heap.size+1) aZ.heap.size bT bX (fun z=>left z && !z.sameKey cb) cB)/\Hid (eC w (w.heap.size+1) w.heap.size br P (c5 l (L.length*3)) (((aE.flatMap (fun e=>gb L ms h aU e (c5 l (L.length*3) e)))++(g.take a).flatMap (hC L ms h aU e g))++gR L ms h aU e A) be)/\Hid (be.heap[aC]? =D (Y #[.int o e.1, .int o e.2.1, .int o e.2.2.1, .int o e.2.2.2] 42 (0,0)))/\Hid (be.heap[bF]? =D (Y #[.int o (J:Int), .int o cg] 106 (0,0))))
  case first=>
   cases aJ with
   | false=>
    have aD:eC w (w.heap.size+1) w.heap.size n P (c5 l (L.length*3)) (((aE.flatMap (fun e=>gb L ms h aU e (c5 l (L.length*3) e)))++(g.take a).flatMap (hC L ms h aU e g))++gR L ms h aU e A) da:=ch.out.n8 (fun c=>by unfold gR;rw[<-fh.out];simp);have a4:=R aD;clear aD
    go_wp2_with fail
    go_meet
    case rel=>exact⟨rfl,n,by omega,en,a4,bg,bv⟩
   | true=>
    obtain⟨bD,ap,ak,bE⟩:=dm bg.out;have ci:Hid (k6.ok (e,4)):=R ⟨bh.out.1,bh.out.2.1,bh.out.2.2.1,bh.out.2.2.2,by unfold bj;omega⟩;obtain⟨a2,rfl⟩:=ai da
    go_wp2_with fail
    obtain⟨aS,bO⟩:=ai (a2.drew);have bQ:Below a2.heap.size a2 aS:=by rw[bO];exact aX.drew
    have bH:=ch.out.below bQ;obtain⟨ew,aA,cJ,bN⟩:=bH.fd;obtain⟨s,hV⟩:=ai ((ew (e,4)).getD 0);have c1:=bN (e,4);rw[<-hV] at c1;have cU:n < maxLen/\n < 9000000000000000000:=⟨by unfold maxLen;omega,by omega⟩;have cO:(e2 101 (.map (D w.heap.size)) (aq #[.int o e.1, .int o e.2.1, .int o e.2.2.1, .int o e.2.2.2, .int o 4]) Q).run aj aS= .ok (.int o s) aS:=by rw[hV];exact aA.gZ ci.out
    obtain⟨v0,b6,a0,aM,bI,bK⟩:=aA.enter rq cU.1 (a:=(e,4)) ci.out;have aM:(Instr.mapEntry 101 (.map (D w.heap.size)) (aq #[.int o e.1, .int o e.2.1, .int o e.2.2.1, .int o e.2.2.2, .int o 4])).run aj aS= .ok (.tuple #[v0,b6]) a0:=aM;have cP:(e2 101 (.map (D w.heap.size)) (aq #[.int o e.1, .int o e.2.1, .int o e.2.2.1, .int o e.2.2.2, .int o 4]) Q).run aj a0= .ok (.int o s) a0:=by rw[hV];exact bI.look
    have eS:b7.wrap (s+1)=s+1:=ca _ (by omega);obtain⟨db,aN,bM,a3⟩:=bI.store (s+1) (nB (by unfold bj;omega));have aN:(Instr.entryStore 101 (.map (D w.heap.size)) b6 (.int o (s+1))).run aj a0= .ok () db:=aN;rw[hV] at bM;have cX:=bH.put cJ bN bK a3 aA bM;have bm:=o9 bK a3;have aL:=aA.rk;obtain⟨cl,a5,ck,bz,bC,cv,cw,cy,cz⟩:=jG cX bm aL cO cP aM aN bO bQ;clear bH aA cJ bN hV cU cO aM bI bK cP aN bM a3 cX bm aL bO bQ;refine ir (fin:= ?z1) [5,7] [[S,S,S,S,S,Q,Q,Q], [Q,Q,Q,S,S,Q,S,Q], [Q,Q,Q,Q,Q,Q,Q,Q]] [[0,2,1], [0,6,4,5,3,2,1]] (fun x=> [.map (D w.heap.size),bS e,(aq #[.int o e.1, .int o e.2.1, .int o e.2.2.1, .int o e.2.2.2, .int o 4]), .int o s, .int o (s+1),(x 0),b6,(x 1)]) (fun I x G=>match I with | 0=>Hid (G=aS)/\G.cell? ⟨aC,0,F⟩=D (.int o e.1)/\G.cell? ⟨aC,1,F⟩=D (.int o e.2.1)/\G.cell? ⟨aC,2,F⟩=D (.int o e.2.2.1)/\G.cell? ⟨aC,3,F⟩=D (.int o e.2.2.2) | 1=>Hid (G=a0)/\Hid (x 0= .tuple #[v0,b6]) | _=>Hid (G=db)/\Hid (x 0= .tuple #[v0,b6])) ?hf (by kernel_rfl) (by kernel_rfl) (fun _=>rfl) (by kernel_rfl) ?hv ⟨cy.out▸R rfl,bD,ap,ak,bE⟩ ?hA ?bi (fun x G hst=> ?_)
    case hf=>intro x;simp only[aT,a6,bd,ba,bc];exact rfl
    case hv=>
     intro x I t v h
     cases I with
     | zero=>cases h;rfl
     | succ I=>
      cases I with
      | zero=>cases h;rfl
      | succ I=>
       simp at h
    case hA=>
     intro I x G bn hst;have bn:I<=2:=bn;rcases(show I=0∨I=1∨I=2 by omega) with rfl | rfl | rfl
     ·have aH:=R hst
      obtain⟨hW,bD,ap,ak,bE⟩:=hst;iterate 5 refine⟨?_,fun K E=> ?_⟩
      ·trivial
      all_goals try (go_simp;exact E _ aH.out;done)
      have b5:(e2 101 (.map (D w.heap.size)) (aq #[.int o e.1, .int o e.2.1, .int o e.2.2.1, .int o e.2.2.2, .int o 4]) Q).run aj G= .ok (.int o s) G:=by first | (rw[hW.out];exact bz.out) | (rw[hW.out];exact bC.out)
      go_simp;exact E _ aH.out
     ·have aH:=R hst
      obtain⟨hW,a9⟩:=hst;iterate 3 refine⟨?_,fun K E=> ?_⟩
      ·trivial
      all_goals try (go_simp;exact E _ aH.out;done)
      ·have bR:=a9.out
       have cE:=E _ aH.out;rw[bR] at cE |-;go_simp;exact cE
      have b5:(e2 101 (.map (D w.heap.size)) (aq #[.int o e.1, .int o e.2.1, .int o e.2.2.1, .int o e.2.2.2, .int o 4]) Q).run aj G= .ok (.int o s) G:=by first | (rw[hW.out];exact bz.out) | (rw[hW.out];exact bC.out)
      go_simp;exact E _ aH.out
     ·trivial
    case bi=>
     intro I t x G ht hst af cW K E
     cases I with
     | zero=>
      cases ht;cases cW
      obtain⟨hW,bD,ap,ak,bE⟩:=hst;have aM:=cv.out;rw[<-hW.out] at aM;go_simp;exact E (.tuple #[v0,b6]) _ ⟨R rfl,R rfl⟩
     | succ I=>
      cases I with
      | zero=>
       cases ht;cases cW
       obtain⟨hW,a9⟩:=hst;have aN:=cw.out;rw[<-hW.out] at aN;go_simp;exact E U _ ⟨R rfl,a9⟩
      | succ I=>
       simp at ht
    obtain⟨hW,a9⟩:=hst;have eA:=hW.out;subst eA;clear hW bz bC cv cw c1 eS;have V:Below a2.heap.size a2 aS:=cz.out;have cZ:=(en.out.kept (jF (r:=F) V) (fun e=>by cases e) (fun e=>by cases e)).kept a5.out (fun e=>by have:=cn e;omega) (fun e=>by have:=cn e;omega);obtain⟨gT,gS,aL⟩:=ck.out;have cL:=(a5.out.block aC (ju (am bg.out) V.size) (fun e=>by
     have h1:=aG bg.out V (am bg.out);rw[cn e,aL] at h1;cases h1)).trans (aG bg.out V (am bg.out))
    have cM:=(a5.out.block bF (ju (am bv.out) V.size) (fun e=>by
     have h1:=aG bv.out V (am bv.out);rw[cn e,aL] at h1;cases h1)).trans (aG bv.out V (am bv.out))
    have aD:eC w (w.heap.size+1) w.heap.size (n+1) P (c5 l (L.length*3)) (((aE.flatMap (fun e=>gb L ms h aU e (c5 l (L.length*3) e)))++(g.take a).flatMap (hC L ms h aU e g))++gR L ms h aU e A) G:=cl.out.n8 (fun c=>by unfold gR;rw[<-fh.out];simp);obtain⟨eo,ee,ef,a4⟩:=df cZ cL cM aD;clear cZ cL cM aD aL V cl a5 ck cy cz
    go_wp2_with fail
    go_meet
    case rel=>exact⟨rfl,n+1,by omega,eo,a4,ee,ef⟩
  obtain⟨hv,n,hn,T,aK,aI,bo⟩:=hcut;subst hv;obtain⟨hr,rfl⟩:=ai wc;clear ch en bg bv;have fl:=T;have bZ:=aI;have bt:=bo;have e0:Hid (eC w (w.heap.size+1) w.heap.size n P (c5 l (L.length*3)) ((((aE.flatMap (fun e=>gb L ms h aU e (c5 l (L.length*3) e)))++(g.take a).flatMap (hC L ms h aU e g))++gR L ms h aU e A)++(g.take 0).flatMap (f8 L ms h e A)) hr):=R (by rw[List.take_zero,List.flatMap_nil,List.append_nil];exact aK.out);clear T aI bo aK
  go_wp2_with fail
  go_loopw [38] (fun v wr=>∃(b n:Nat),b<=g.length/\v= .int o b/\n<=cA+a*3001+1+b/\Hid (wr.ranges aj 42 iQ (w.heap.size+1) aZ.heap.size bT bX (fun z=>left z && !z.sameKey cb) cB)/\Hid (eC w (w.heap.size+1) w.heap.size n P (c5 l (L.length*3)) ((((aE.flatMap (fun e=>gb L ms h aU e (c5 l (L.length*3) e)))++(g.take a).flatMap (hC L ms h aU e g))++gR L ms h aU e A)++(g.take b).flatMap (f8 L ms h e A)) wr)/\Hid (wr.heap[aC]? =D (Y #[.int o e.1, .int o e.2.1, .int o e.2.2.1, .int o e.2.2.2] 42 (0,0)))/\Hid (wr.heap[bF]? =D (Y #[.int o (J:Int), .int o cg] 106 (0,0)))) (fun v _=>g.length-(intOf v).toNat)
  case atStart=>exact⟨0,n,by omega,rfl,by omega,fl,e0,bZ,bt⟩
  clear fl e0 bZ bt hn n;obtain⟨b,n,cF,rfl,hn,T,aK,aI,bo⟩:=hrel;by_cases gW:b < g.length
  ·obtain⟨ax,dy⟩:∃y,g[b]? =D y:=⟨_,bb gW⟩
   have aF:=aK.out.row e _ fa.out;rw[<-eb.out] at aF;obtain⟨c3,c4⟩:=uy aF dy;have dD:=fb.out ax (cH dy);have lF:=fun(W:ac) (cF:Below w.heap.size w W)=>xn q L ms h aU A.1 ax.1 A.2 ax.2 W (ei.out.below cF) eq.out.1 dD.1 eq.out.2 dD.2;obtain⟨ao,b4⟩:=ai (mJ L ms h A ax);have eI:hx L ms h A.1 A.2 ax.1 ax.2=ao:=b4.symm;simp only[eI] at lF;have eP:=sP L ms h A.1 A.2 ax.1 ax.2;rw[eI] at eP;obtain⟨u1,c0⟩:=ai (ax.1);obtain⟨u2,eR⟩:=ai (ax.2);rw[<-c0] at c3;rw[<-eR] at c4;simp only[<-dj.out,<-fp.out,<-c0,<-eR] at lF;have fX:l8 L ms A ax=((!au (J=u1)) && au (bA L ms J=bA L ms u1)):=by rw[dj.out,c0];rfl
   have hi:J < L.length:=by rw[dj.out];exact eq.out.1
   have hd:u1 < L.length:=by rw[c0];exact dD.1
   have hI:(b:Int) < (g.length:Int):=by omega
   have hH:(0:Int)<=(b:Int):=by omega
   obtain⟨eW,ff,gt,gp,fi⟩:=dY lF b4 eP dy fX;obtain⟨dG,rfl⟩:=ai wr;clear dy aF dD lF b4 eI eP fX c0 eR;go_upto_block 5 with fail
   go_cut [38] from 38 to 80 (fun v be=>v= .int o (b:Int)/\∃br,br<=cA+a*3001+1+(b+1)/\Hid (be.ranges aj 42 iQ (w.heap.size+1) aZ.heap.size bT bX (fun z=>left z && !z.sameKey cb) cB)/\Hid (eC w (w.heap.size+1) w.heap.size br P (c5 l (L.length*3)) (((((aE.flatMap (fun e=>gb L ms h aU e (c5 l (L.length*3) e)))++(g.take a).flatMap (hC L ms h aU e g))++gR L ms h aU e A)++(g.take b).flatMap (f8 L ms h e A))++f8 L ms h e A ax) be)/\Hid (be.heap[aC]? =D (Y #[.int o e.1, .int o e.2.1, .int o e.2.2.1, .int o e.2.2.2] 42 (0,0)))/\Hid (be.heap[bF]? =D (Y #[.int o (J:Int), .int o cg] 106 (0,0))))
   case first=>
    go_upto_region 13 with fail
    have eU:=aQ dG (Y #[.int o (u1:Int), .int o u2] 106);have cG:=aV dG (Y #[.int o (u1:Int), .int o u2] 106);obtain⟨de,ep,dh,cj⟩:=df (aK.out.below cG) (T.out.kept (jF (r:=F) cG) (fun e=>by cases e) (fun e=>by cases e)) (aG aI.out cG (am aI.out)) (aG bo.out cG (am bo.out));obtain⟨fs,fH⟩:=ai (dG.heap.size);rw[<-fH] at eU |-;obtain⟨dI,z1⟩:=d7 eU;obtain⟨bU,bV⟩:=d7 cj.out;have dA:=ei.out.below de.out.bel;have b9:=dA.cd.c2;obtain⟨r0,cN,ct⟩:=dA.mF hi;obtain⟨c6,c7,c8⟩:=dA.mF hd;obtain⟨d1,eF⟩:=ai (!au (J=u1));obtain⟨d2,eG⟩:=ai (au (bA L ms J=bA L ms u1));have cY:∀Z,(binOp .eql 53 (aq #[.int o (bA L ms J).1, .int o (bA L ms J).2.1, .int o (bA L ms J).2.2]) (aq #[.int o (bA L ms u1).1, .int o (bA L ms u1).2.1, .int o (bA L ms u1).2.2])).run aj Z= .ok (.bool d2) Z:=fun Z=>by
     have h:=n5 (bA L ms J).1 (bA L ms J).2.1 (bA L ms J).2.2 (bA L ms u1).1 (bA L ms u1).2.1 (bA L ms u1).2.2 Z;rw[jE] at h;rw[eG];exact h
    have eM:=fi.out;rw[<-eF,<-eG] at eM;obtain⟨er,fA⟩:=ai (bA L ms J);obtain⟨es,hV⟩:=ai (bA L ms u1);rw[<-fA] at cY r0 cN ct;rw[<-hV] at cY c6 c7 c8;have hY:(0:Int)<=(J:Int):=by omega
    have hU:(0:Int)<=(u1:Int):=by omega
    have hZ:(J:Int) < (L.length:Int):=by omega
    have hX:(u1:Int) < (L.length:Int):=by omega
    obtain⟨e9,fk,fj⟩:=cq eF cY eM;clear eU cG fH aK T aI bo c3 c4 dA eF eG cY eM fA hV fi;generalize dG.alloc (Y #[.int o (u1:Int), .int o u2] 106)=w8 at de ep dh cj dI z1 bU bV b9 r0 cN ct c6 c7 c8 |-;obtain⟨gN,dX⟩:∃s:ae,Hid (s=(bif d1 then ad (D ⟨q.ar,0,F⟩) else U)):=⟨_,R rfl⟩;obtain⟨gO,dZ⟩:∃s:ae,Hid (s=(bif d1 then ad (D ⟨q.ar,0,F⟩) else U)):=⟨_,R rfl⟩;obtain⟨gP,d3⟩:∃s:ae,Hid (s=(bif d1 then ad (D ⟨q.ar,2,F⟩) else U)):=⟨_,R rfl⟩;obtain⟨gQ,d5⟩:∃s:ae,Hid (s=(bif d1 then O (D ⟨q.cD,0,F⟩) L.length q.eh else U)):=⟨_,R rfl⟩;obtain⟨gx,dJ⟩:∃s:ae,Hid (s=(bif d1 then ad (D ⟨bF,0,F⟩) else U)):=⟨_,R rfl⟩
    obtain⟨gy,dK⟩:∃s:ae,Hid (s=(bif d1 then .int o (J:Int) else U)):=⟨_,R rfl⟩;obtain⟨gz,dL⟩:∃s:ae,Hid (s=(bif d1 then ad (D ⟨q.cD,J*3,F⟩) else U)):=⟨_,R rfl⟩;obtain⟨gB,dM⟩:∃s:ae,Hid (s=(bif d1 then aq #[.int o er.1, .int o er.2.1, .int o er.2.2] else U)):=⟨_,R rfl⟩;obtain⟨gC,dN⟩:∃s:ae,Hid (s=(bif d1 then ad (D ⟨q.ar,0,F⟩) else U)):=⟨_,R rfl⟩;obtain⟨gD,dO⟩:∃s:ae,Hid (s=(bif d1 then ad (D ⟨q.ar,0,F⟩) else U)):=⟨_,R rfl⟩;obtain⟨gE,dP⟩:∃s:ae,Hid (s=(bif d1 then ad (D ⟨q.ar,2,F⟩) else U)):=⟨_,R rfl⟩;obtain⟨gF,dQ⟩:∃s:ae,Hid (s=(bif d1 then O (D ⟨q.cD,0,F⟩) L.length q.eh else U)):=⟨_,R rfl⟩
    obtain⟨gG,dR⟩:∃s:ae,Hid (s=(bif d1 then ad (D ⟨fs,0,F⟩) else U)):=⟨_,R rfl⟩;obtain⟨gH,dS⟩:∃s:ae,Hid (s=(bif d1 then .int o (u1:Int) else U)):=⟨_,R rfl⟩;obtain⟨gI,dT⟩:∃s:ae,Hid (s=(bif d1 then ad (D ⟨q.cD,u1*3,F⟩) else U)):=⟨_,R rfl⟩;obtain⟨gJ,dU⟩:∃s:ae,Hid (s=(bif d1 then aq #[.int o es.1, .int o es.2.1, .int o es.2.2] else U)):=⟨_,R rfl⟩;obtain⟨gK,dV⟩:∃s:ae,Hid (s=(bif d1 then .bool d2 else U)):=⟨_,R rfl⟩;obtain⟨gL,dW⟩:∃s:ae,Hid (s= .bool (d1 && d2)):=⟨_,R rfl⟩;refine bW (fin:= ?z3) [ad (D ⟨bF,0,F⟩), .int o (J:Int), ad (D ⟨fs,0,F⟩), .int o (u1:Int), .bool d1, .bool d1,gN,gO,gP,gQ,gx,gy,gz,gB,gC,gD,gE,gF,gG,gH,gI,gJ,gK,gL] ?hf bp (by kernel_rfl) rfl fun G hst=> ?_
    case hf=>simp only[aT,a6,bd,ba,bc];exact rfl
    have M:=R hst;have b2:=hst;obtain⟨bU,bV,dI,z1,b9,r0,cN,ct,c6,c7,c8⟩:=vu b2 bU bV dI z1 b9 r0 cN ct c6 c7 c8;constructor
    ·iterate 24 refine⟨?_,fun K E=> ?_⟩
     ·trivial
     ·obtain rfl:=dW.out
      obtain rfl:=dV.out;cases d1 <;> cases d2 <;> (go_simp;exact E _ M.out)
     ·have cY:=fk.out
      obtain rfl:=dV.out;obtain rfl:=dM.out;obtain rfl:=dU.out;cases d1 <;> (go_simp;exact E _ M.out)
     ·obtain rfl:=dU.out
      obtain rfl:=dT.out;cases d1 <;> (go_simp;exact E _ M.out)
     ·obtain rfl:=dT.out
      obtain rfl:=dQ.out;obtain rfl:=dS.out;cases d1 <;> (go_simp;exact E _ M.out)
     ·obtain rfl:=dS.out
      obtain rfl:=dR.out;cases d1 <;> (go_simp;exact E _ M.out)
     ·obtain rfl:=dR.out
      cases d1 <;> (go_simp;exact E _ M.out)
     ·obtain rfl:=dQ.out
      obtain rfl:=dP.out;cases d1 <;> (go_simp;exact E _ M.out)
     ·obtain rfl:=dP.out
      obtain rfl:=dO.out;cases d1 <;> (go_simp;exact E _ M.out)
     ·obtain rfl:=dO.out
      obtain rfl:=dN.out;cases d1 <;> (go_simp;exact E _ M.out)
     ·obtain rfl:=dN.out
      cases d1 <;> (go_simp;exact E _ M.out)
     ·obtain rfl:=dM.out
      obtain rfl:=dL.out;cases d1 <;> (go_simp;exact E _ M.out)
     ·obtain rfl:=dL.out
      obtain rfl:=d5.out;obtain rfl:=dK.out;cases d1 <;> (go_simp;exact E _ M.out)
     ·obtain rfl:=dK.out
      obtain rfl:=dJ.out;cases d1 <;> (go_simp;exact E _ M.out)
     ·obtain rfl:=dJ.out
      cases d1 <;> (go_simp;exact E _ M.out)
     ·obtain rfl:=d5.out
      obtain rfl:=d3.out;cases d1 <;> (go_simp;exact E _ M.out)
     ·obtain rfl:=d3.out
      obtain rfl:=dZ.out;cases d1 <;> (go_simp;exact E _ M.out)
     ·obtain rfl:=dZ.out
      obtain rfl:=dX.out;cases d1 <;> (go_simp;exact E _ M.out)
     ·obtain rfl:=dX.out
      cases d1 <;> (go_simp;exact E _ M.out)
     ·cases d1 <;> (go_simp;exact E _ M.out)
     ·have h2:((J:Int) !=(u1:Int))=d1:=by rw[e9.out,Bool.eq_iff_iff];simp only[bne_iff_ne,ne_eq,Bool.not_eq_true',decide_eq_false_iff_not];omega
      (go_simp;exact E _ M.out)
     iterate 4 (go_simp;exact E _ M.out)
    obtain rfl:=dW.out;clear dX dZ d3 d5 dJ dK dL dM dN dO dP dQ dR dS dT dU dV dW;generalize fW:(d1 && d2)=pr;have eg:Hid (l8 L ms A ax=pr):=R (fj.out.trans fW);obtain⟨bY,cr,bs,bx⟩:=df (de.out.below b2) (ep.out.kept (jF (r:=F) b2) (fun e=>by cases e) (fun e=>by cases e)) (aG dh.out b2 (am dh.out)) (aG cj.out b2 (am cj.out));have fE:=eW.out G bY.out.bel;have eV:=R fE;obtain⟨hs,rfl⟩:=ai G;clear fW fE eW de ep dh cj b2 fj e9 fk b9 r0 cN ct c6 c7 c8
    cases pr with
    | false=>
     have aD:eC w (w.heap.size+1) w.heap.size n P (c5 l (L.length*3)) (((((aE.flatMap (fun e=>gb L ms h aU e (c5 l (L.length*3) e)))++(g.take a).flatMap (hC L ms h aU e g))++gR L ms h aU e A)++(g.take b).flatMap (f8 L ms h e A))++f8 L ms h e A ax) hs:=bY.out.n8 (fun c=>by unfold f8;rw[eg.out];simp);have a4:=R aD;clear aD
     go_wp2_with fail
     go_meet
     case rel=>exact⟨rfl,n,by omega,cr,a4,bs,bx⟩
    | true=>
     by_cases dv:0 < ao
     rotate_left
     ·have g4:¬ao > 0:=dv
      have ed:=R (show au (0 < ao)=Q from decide_eq_false dv)
      go_wp2_with (go_at_call 50;refine aw eV.out fun hq aW=> ?_;have aD:eC w (w.heap.size+1) w.heap.size n P (c5 l (L.length*3)) (((((aE.flatMap (fun e=>gb L ms h aU e (c5 l (L.length*3) e)))++(g.take a).flatMap (hC L ms h aU e g))++gR L ms h aU e A)++(g.take b).flatMap (f8 L ms h e A))++f8 L ms h e A ax) hq:=(bY.out.below aW).n8 (fun c=>by unfold f8;rw[eg.out,<-ff.out,ed.out];simp);have a4:=R aD;have ej:=R (cr.out.kept (jF (r:=F) aW) (fun e=>by cases e) (fun e=>by cases e));have bf:=R (aG bs.out aW (am bs.out));have bu:=R (aG bx.out aW (am bx.out));clear aD aW bY cr bs bx)
      go_meet
      case rel=>exact⟨rfl,n,by omega,ej,a4,bf,bu⟩
     have g4:ao > 0:=dv;have ed:=R (show au (0 < ao)=S from decide_eq_true dv);have ci:Hid (k6.ok (e,ao)):=R ⟨bh.out.1,bh.out.2.1,bh.out.2.2.1,bh.out.2.2.2,by have:=gt.out;unfold bj;omega⟩
     go_wp2_with (go_at_call 50;refine aw eV.out fun a2 aW=> ?_;have gf:=R (bY.out.below aW);have ej:=R (cr.out.kept (jF (r:=F) aW) (fun e=>by cases e) (fun e=>by cases e));have bf:=R (aG bs.out aW (am bs.out));have bu:=R (aG bx.out aW (am bx.out));clear aW bY cr bs bx bU bV dI z1)
     obtain⟨bD,ap,ak,bE⟩:=dm bf.out;obtain⟨aS,bO⟩:=ai (a2.drew);have bQ:Below a2.heap.size a2 aS:=by rw[bO];exact aX.drew
     have bH:=gf.out.below bQ;obtain⟨ew,aA,cJ,bN⟩:=bH.fd;obtain⟨s,hV⟩:=ai ((ew (e,ao)).getD 0);have c1:=bN (e,ao);rw[<-hV] at c1;have cU:n < maxLen/\n < 9000000000000000000:=⟨by unfold maxLen;omega,by omega⟩;have cO:(e2 101 (.map (D w.heap.size)) (aq #[.int o e.1, .int o e.2.1, .int o e.2.2.1, .int o e.2.2.2, .int o ao]) Q).run aj aS= .ok (.int o s) aS:=by rw[hV];exact aA.gZ ci.out
     obtain⟨v0,b6,a0,aM,bI,bK⟩:=aA.enter rq cU.1 (a:=(e,ao)) ci.out;have aM:(Instr.mapEntry 101 (.map (D w.heap.size)) (aq #[.int o e.1, .int o e.2.1, .int o e.2.2.1, .int o e.2.2.2, .int o ao])).run aj aS= .ok (.tuple #[v0,b6]) a0:=aM;have cP:(e2 101 (.map (D w.heap.size)) (aq #[.int o e.1, .int o e.2.1, .int o e.2.2.1, .int o e.2.2.2, .int o ao]) Q).run aj a0= .ok (.int o s) a0:=by rw[hV];exact bI.look
     have eS:b7.wrap (s+1)=s+1:=ca _ (by omega);obtain⟨db,aN,bM,a3⟩:=bI.store (s+1) (nB (by unfold bj;omega));have aN:(Instr.entryStore 101 (.map (D w.heap.size)) b6 (.int o (s+1))).run aj a0= .ok () db:=aN;rw[hV] at bM;have cX:=bH.put cJ bN bK a3 aA bM;have bm:=o9 bK a3;have aL:=aA.rk;obtain⟨cl,a5,ck,bz,bC,cv,cw,cy,cz⟩:=jG cX bm aL cO cP aM aN bO bQ;clear bH aA cJ bN hV cU cO aM bI bK cP aN bM a3 cX bm aL bO bQ;refine ir (fin:= ?z4) [6,8] [[S,S,S,S,S,S,Q,Q,Q], [Q,Q,Q,Q,S,S,Q,S,Q], [Q,Q,Q,Q,Q,Q,Q,Q,Q]] [[0,3,1,2], [0,7,5,6,4,3,1,2]] (fun x=> [.map (D w.heap.size),bS e, .int o ao,(aq #[.int o e.1, .int o e.2.1, .int o e.2.2.1, .int o e.2.2.2, .int o ao]), .int o s, .int o (s+1),(x 0),b6,(x 1)]) (fun I x G=>match I with | 0=>Hid (G=aS)/\G.cell? ⟨aC,0,F⟩=D (.int o e.1)/\G.cell? ⟨aC,1,F⟩=D (.int o e.2.1)/\G.cell? ⟨aC,2,F⟩=D (.int o e.2.2.1)/\G.cell? ⟨aC,3,F⟩=D (.int o e.2.2.2) | 1=>Hid (G=a0)/\Hid (x 0= .tuple #[v0,b6]) | _=>Hid (G=db)/\Hid (x 0= .tuple #[v0,b6])) ?hf (by kernel_rfl) (by kernel_rfl) (fun _=>rfl) (by kernel_rfl) ?hv ⟨cy.out▸R rfl,bD,ap,ak,bE⟩ ?hA ?bi (fun x G hst=> ?he)
     case hf=>intro x;simp only[aT,a6,bd,ba,bc];exact rfl
     case hv=>
      intro x I t v h
      cases I with
      | zero=>cases h;rfl
      | succ I=>
       cases I with
       | zero=>cases h;rfl
       | succ I=>
        simp at h
     case hA=>
      intro I x G bn hst;have bn:I<=2:=bn;rcases(show I=0∨I=1∨I=2 by omega) with rfl | rfl | rfl
      ·have aH:=R hst
       obtain⟨hW,bD,ap,ak,bE⟩:=hst;iterate 6 refine⟨?_,fun K E=> ?_⟩
       ·trivial
       all_goals try (go_simp;exact E _ aH.out;done)
       have b5:(e2 101 (.map (D w.heap.size)) (aq #[.int o e.1, .int o e.2.1, .int o e.2.2.1, .int o e.2.2.2, .int o ao]) Q).run aj G= .ok (.int o s) G:=by first | (rw[hW.out];exact bz.out) | (rw[hW.out];exact bC.out)
       go_simp;exact E _ aH.out
      ·have aH:=R hst
       obtain⟨hW,a9⟩:=hst;iterate 3 refine⟨?_,fun K E=> ?_⟩
       ·trivial
       all_goals try (go_simp;exact E _ aH.out;done)
       ·have bR:=a9.out
        have cE:=E _ aH.out;rw[bR] at cE |-;go_simp;exact cE
       have b5:(e2 101 (.map (D w.heap.size)) (aq #[.int o e.1, .int o e.2.1, .int o e.2.2.1, .int o e.2.2.2, .int o ao]) Q).run aj G= .ok (.int o s) G:=by first | (rw[hW.out];exact bz.out) | (rw[hW.out];exact bC.out)
       go_simp;exact E _ aH.out
      ·trivial
     case bi=>
      intro I t x G ht hst af cW K E
      cases I with
      | zero=>
       cases ht;cases cW
       obtain⟨hW,bD,ap,ak,bE⟩:=hst;have aM:=cv.out;rw[<-hW.out] at aM;go_simp;exact E (.tuple #[v0,b6]) _ ⟨R rfl,R rfl⟩
      | succ I=>
       cases I with
       | zero=>
        cases ht;cases cW
        obtain⟨hW,a9⟩:=hst;have aN:=cw.out;rw[<-hW.out] at aN;go_simp;exact E U _ ⟨R rfl,a9⟩
       | succ I=>
        simp at ht
     obtain⟨hW,a9⟩:=hst;have eA:=hW.out;subst eA;clear hW bz bC cv cw c1 eS;have V:Below a2.heap.size a2 aS:=cz.out;have cZ:=(ej.out.kept (jF (r:=F) V) (fun e=>by cases e) (fun e=>by cases e)).kept a5.out (fun e=>by have:=cn e;omega) (fun e=>by have:=cn e;omega);obtain⟨gT,gS,aL⟩:=ck.out;have cL:=(a5.out.block aC (ju (am bf.out) V.size) (fun e=>by
      have h1:=aG bf.out V (am bf.out);rw[cn e,aL] at h1;cases h1)).trans (aG bf.out V (am bf.out))
     have cM:=(a5.out.block bF (ju (am bu.out) V.size) (fun e=>by
      have h1:=aG bu.out V (am bu.out);rw[cn e,aL] at h1;cases h1)).trans (aG bu.out V (am bu.out))
     have aD:eC w (w.heap.size+1) w.heap.size (n+1) P (c5 l (L.length*3)) (((((aE.flatMap (fun e=>gb L ms h aU e (c5 l (L.length*3) e)))++(g.take a).flatMap (hC L ms h aU e g))++gR L ms h aU e A)++(g.take b).flatMap (f8 L ms h e A))++f8 L ms h e A ax) G:=cl.out.n8 (fun c=>by unfold f8;rw[eg.out,<-ff.out,ed.out];simp);obtain⟨eo,ee,ef,a4⟩:=df cZ cL cM aD;clear cZ cL cM aD aL V cl a5 ck cy cz
     go_wp2_with fail
     go_meet
     case rel=>exact⟨rfl,n+1,by omega,eo,a4,ee,ef⟩
   obtain⟨hv,br,hP,T,aK,aI,bo⟩:=hcut;subst hv;have cC:Hid (eC w (w.heap.size+1) w.heap.size br P (c5 l (L.length*3)) ((((aE.flatMap (fun e=>gb L ms h aU e (c5 l (L.length*3) e)))++(g.take a).flatMap (hC L ms h aU e g))++gR L ms h aU e A)++(g.take (b+1)).flatMap (f8 L ms h e A)) wc):=R (by rw[vM gp.out,<-nI];exact aK.out);have hg:b7.wrap ((b:Int)+1)=((b+1:Nat):Int):=by rw[ca _ (by omega)];omega
   clear aK;go_wp2;go_roundw
   case rel=>exact⟨b+1,br,by omega,by first | rfl | go_num,by omega,T,cC,aI,bo⟩
   case measure=>simp[intOf];omega
  obtain rfl:b=g.length:=by omega
  have cC:Hid (eC w (w.heap.size+1) w.heap.size n P (c5 l (L.length*3)) ((aE.flatMap (fun e=>gb L ms h aU e (c5 l (L.length*3) e)))++(g.take (a+1)).flatMap (hC L ms h aU e g)) wr):=R (by
   rw[vM gm.out];have h1:=aK.out;rw[List.take_length] at h1;unfold hC;rw[<-nI,<-nI];exact h1)
  have hg:b7.wrap ((a:Int)+1)=((a+1:Nat):Int):=by rw[ca _ (by omega)];omega
  clear aK;go_wp2;go_roundw
  case rel=>exact⟨a+1,n,by omega,by first | rfl | go_num,by omega,T,cC,aI⟩
  case measure=>simp[intOf];omega
 obtain rfl:a=g.length:=by omega
 have g8:n<=(aE++ [e]).length*9003000:=by
  rw[List.length_append,List.length_singleton,Nat.succ_mul,<-gi.out];have:g.length*3001<=3000*3001:=Nat.mul_le_mul_right _ g3;omega
 have cC:Hid (eC w (w.heap.size+1) w.heap.size n P (c5 l (L.length*3)) ((aE++ [e]).flatMap (fun e=>gb L ms h aU e (c5 l (L.length*3) e))) wr):=R (by
  rw[List.flatMap_append,List.flatMap_singleton];have h1:=aK.out;rw[List.take_length] at h1;unfold gb;rw[<-eb.out];exact h1)
 clear aK
 go_wp2_with fail
 go_roundw
 case rel=>exact⟨_,cB,aE++ [e],n,g8,T.out,gg,cC⟩
 case measure=>rw[T.out.left_eq,gj.out.left_eq];exact gl.out
end
section
set_option maxRecDepth 100000
open Go.RowKit Go.Maps
theorem uM(w:ac):bB aj 9 #[aq #[B o 0, B o 0, O F 0 0, O F 0 0, O F 0 0, O F 0 0]] w fun e Z=>e= .returned (aa S)/\Below w.heap.size w Z:=by
 have bg:=aQ w (Y #[B o 0, B o 0, O F 0 0, O F 0 0, O F 0 0, O F 0 0] 29);have ab:=aV w (Y #[B o 0, B o 0, O F 0 0, O F 0 0, O F 0 0, O F 0 0] 29);obtain⟨a0,ao,a2,k,l,r⟩:=cx bg;have am:=R ab;clear ab bg;go_in;go_wp2;go_ret;exact⟨rfl,am.out⟩
theorem AA(W H:Int)(Am Ac Ap As:Option Addr)(nm cm nc cc np cp ns cS:Nat)(mask:List Int)(cs:List bw)(ms:List aR)(sts:List aP)(w:ac)(y:Steps w)(E:Rd w 1 Am nm (bF mask))(hc:Rd w 5 Ac nc (cr cs))(G:Rd w 6 Ap np (b5 ms))(hst:en w As ns sts)
  (hnm:nm<=140737488351232) (hnc:nc<=140737488351232) (hnp:np<=140737488351232):
  bB aj 4 #[aq #[B o W, B o H, O Am nm cm, O Ac nc cc, O Ap np cp, O As ns cS]] w fun e Z=>e= .returned (aa (g7 W H mask cs ms sts))/\Below w.heap.size w Z:=by
 have I:=aQ w (Y #[B o W, B o H, O Am nm cm, O Ac nc cc, O Ap np cp, O As ns cS] 29);have a:=aV w (Y #[B o W, B o H, O Am nm cm, O Ac nc cc, O Ap np cp, O As ns cS] 29);obtain⟨a0,ao,a2,k,l,r⟩:=cx I;have s:=rF W H Am Ac Ap As nm cm nc cc np cp ns cS mask cs ms sts _ (y.below a) (E.below a) (hc.below a) (G.below a) (hst.below a) hnm hnc hnp;obtain⟨ay,A⟩:=ai (g7 W H mask cs ms sts);rw[<-A] at s |-;obtain⟨g,du,b⟩:=cq s (y.below a) a;clear y E hc G hst hnm hnc hnp I a s A;go_in
 go_wp2_with fail
 generalize w.alloc (Y #[B o W, B o H, O Am nm cm, O Ac nc cc, O Ap np cp, O As ns cS] 29)=w1 at a0 ao a2 k l r g du b |-;refine g.out.mono ?_;rintro e ak ⟨c,⟨hF,v,rfl⟩ | ⟨bi,ar,rfl,J⟩⟩
 ·have i:=R (b.out.trans (c.mono b.out.size))
  subst hF;clear g c a0 ao a2 k l r
  go_wp2_with fail
  go_ret;exact⟨rfl,i.out⟩
 have i:=R (b.out.trans (c.mono b.out.size));subst bi;clear g c J a0 ao a2 k l r
 go_wp2_with fail
 go_ret;exact⟨rfl,i.out⟩
def oM(W:Int)(mask:List Int)(cs:List bw)(ms:List aR)(sts:List aP)(az:Nat)(v:ae)(Z:ac):Prop:=
 Z.ownsRow az 44 5 v (iC (d4 (bG W.toNat mask) ms cs ((bG W.toNat mask).length*3)) ((bG W.toNat mask).map (cy sts))).length (cV (iC (d4 (bG W.toNat mask) ms cs ((bG W.toNat mask).length*3)) ((bG W.toNat mask).map (cy sts))))/\(iC (d4 (bG W.toNat mask) ms cs ((bG W.toNat mask).length*3)) ((bG W.toNat mask).map (cy sts))).length<=100000
theorem CC(W H:Int)(Am Ac Ap As:Option Addr)(nm cm nc cc np cp ns cS:Nat)(mask:List Int)(cs:List bw)(ms:List aR)(sts:List aP)(w:ac)(y:Steps w)(E:Rd w 1 Am nm (bF mask))(hc:Rd w 5 Ac nc (cr cs))(G:Rd w 6 Ap np (b5 ms))(hst:en w As ns sts)
  (hnm:nm<=140737488351232) (hnc:nc<=140737488351232) (hnp:np<=140737488351232):
  bB aj 6 #[aq #[B o W, B o H, O Am nm cm, O Ac nc cc, O Ap np cp, O As ns cS]] w fun e Z=>Below w.heap.size w Z/\((g7 W H mask cs ms sts=Q/\e= .returned (.tuple #[O F 0 0, B o 10]))∨(g7 W H mask cs ms sts=S/\∃v,e= .returned (.tuple #[v, B o 0])/\oM W mask cs ms sts w.heap.size v Z)):=by
 have I:=aQ w (Y #[B o W, B o H, O Am nm cm, O Ac nc cc, O Ap np cp, O As ns cS] 29);have a:=aV w (Y #[B o W, B o H, O Am nm cm, O Ac nc cc, O Ap np cp, O As ns cS] 29);obtain⟨a0,ao,a2,k,l,r⟩:=cx I;have s:=rF W H Am Ac Ap As nm cm nc cc np cp ns cS mask cs ms sts _ (y.below a) (E.below a) (hc.below a) (G.below a) (hst.below a) hnm hnc hnp;obtain⟨ay,A⟩:=ai (g7 W H mask cs ms sts);rw[<-A] at s |-;obtain⟨g,du,b⟩:=cq s (y.below a) a;clear y E hc G hst hnm hnc hnp I a s A;go_in
 go_wp2_with fail
 generalize w.alloc (Y #[B o W, B o H, O Am nm cm, O Ac nc cc, O Ap np cp, O As ns cS] 29)=w1 at a0 ao a2 k l r g du b |-;refine g.out.mono ?_;rintro e ak ⟨c,⟨hF,v,rfl⟩ | ⟨bi,ar,rfl,J⟩⟩
 ·have i:=R (b.out.trans (c.mono b.out.size))
  have ap:=R hF;clear g c hF a0 ao a2 k l r
  go_wp2_with fail
  exact cT (v:= .tuple #[O F 0 0, B o 10]) (by simp[results,Tryz.results6,go_sem]) rfl ⟨i.out, .inl ⟨ap.out,rfl⟩⟩
 have i:=R (b.out.trans (c.mono b.out.size));have ax:=R bi;obtain⟨q,L,aS,aL,aK,aJ,aF,aB,hL,aE,aA,aH,aC,aD,K,z,ag,ah,V⟩:=J.t;subst aL;have N:=V.BJ ag;rw[ah] at N;have M:=py K.lf;rw[<-hL] at M;have af:=yx (cs:=cs) z.eR z.bL z.maps (by have h:=K.pT;rw[<-hL] at h;exact h);have T:=xx q L ms (L.map (cy sts)) (fY cs) cs ak N (du.out.below c) z M;obtain⟨av,al,aw⟩:=cq af T hL;have hsz:=i.out.size;clear g du aK aJ aF aB hL aE aA aH aC aD K z ag ah V J c N M af T bi a0 ao a2 k l r
 go_wp2_with (go_at_call 15;refine al.out.mono ?_;rintro e aU ⟨v,aT,rfl,aO,aI,aM,aN,aG⟩)
 obtain rfl:=xC av.out aO aI;obtain⟨P,an⟩:=aY (a7 aN aM) (i.out.trans (aG.mono i.out.size));exact cT (v:= .tuple #[v, B o 0]) (by simp[results,Tryz.results6,go_sem]) rfl ⟨an.out, .inr ⟨ax.out,v,rfl,by unfold oM;rw[<-aw.out];exact⟨dn P.out.1 hsz,P.out.2⟩⟩⟩
end
section
set_option maxRecDepth 100000
open Go.RowKit Go.Maps Go.Sort Go.Shelf
theorem yS(n N:Nat)(ar aA aF gc eF cw:Nat)(d2:Array ae)(dp:Nat->Nat->Int)(aS dA:ae)(bh:List ah)(eD:List Nat)(w:ac)(hn:bh.length=n)(bp:SWO (ltOf dp))(gW:∀args w,(callFunc cw args).run aj w= .ok (.enter cw args) w)
  (dv:∀(W:ac) (g size:Nat),w.heap.size<=g->da w W aF ar->CmpLays1 aj cw d2 (h3 N) (fun a b=>dp a b) g 0 size W) (g1:n=N+1) (b4:n<=1000) (bR:∀a ∈ bh,bj a.1/\bj a.2.1/\bj a.2.2)
  (eB:dP w ar aA aS dA (O (D ⟨aF,0,F⟩) n n) gc) (ho:w.ownsRow eF 53 3 dA n (bn bh)) (hd:eD.length=n) (hb:w.heap[aF]? =D (Y (di eD).toArray 3 (0,0))):
  bB aj 22 #[ad (D ⟨ar,0,F⟩), eO (.func cw) #[] d2] w fun r Z=>r= .returned (.tuple #[])/\∃(f:ah->Option ae) (G:ah->List Nat) (k:Nat),dP Z ar aA aS dA (O (D ⟨aF,0,F⟩) n n) w.heap.size/\eT Z w.heap.size w.heap.size k f G/\(∀x,(f x).isSome=S↔x ∈ bh)/\(∀x,(G x).Perm (eY bh bh.length x))/\(∀x,(G x).Pairwise fun i j=>ltOf dp j i=Q)/\da w Z aF ar:=by
 subst hn;refine(yQ N ar aA aF gc eF cw d2 dp aS dA bh eD w bp gW dv g1 (by omega) b4 bR eB ho hd hb).mono ?_;rintro r Z ⟨e,k,f,G,cg,h1,ab,ag,az,gY,gZ,hI,bL,hK,gX⟩;exact⟨e,f,G,k,ab,ag,az,gY,gZ,gX⟩
theorem Dg(W H:Int)(Am Ac Ap As:Option Addr)(nm cm nc cc np cp ns cS:Nat)(mask:List Int)(cs:List bw)(ms:List aR)(sts:List aP)(w:ac)(hs:Steps w)(et:Rd w 1 Am nm (bF mask))(hc:Rd w 5 Ac nc (cr cs))(fW:Rd w 6 Ap np (b5 ms))(hst:en w As ns sts)
  (hnm:nm*8<=140737488351232) (hnc:nc*40<=140737488351232) (hnp:np*48<=140737488351232) (hAm:Am=F->cm=0) (hAc:Ac=F->cc=0):
  bB aj 7 #[aq #[B o W, B o H, O Am nm cm, O Ac nc cc, O Ap np cp, O As ns cS]] w fun e Z=>Below w.heap.size w Z/\((g7 W H mask cs ms sts=Q/\e= .returned (.tuple #[aq #[B o 0, B o 0, O F 0 0, O F 0 0, O F 0 0, O F 0 0], B o 10]))∨
   (g7 W H mask cs ms sts=S/\∃(fe fa:Nat) (L:List ah),W=(fe:Int)/\H=(fa:Int)/\L=bG W.toNat mask/\((¬(∀i,i < L.length->gH L ms i)/\e= .returned (.tuple #[aq #[B o 0, B o 0, O F 0 0, O F 0 0, O F 0 0, O F 0 0], B o 2]))∨((∀i,i < L.length->gH L ms i)/\∃v,e= .returned (.tuple #[v, B o 0])/\qD w fe fa mask nm nc cs ms L sts v Z)))):=by
 have gb:=aW (aQ w (Y #[B o W, B o H, O Am nm cm, O Ac nc cc, O Ap np cp, O As ns cS] 29)) (Y #[B o 0, B o 0, O F 0 0, O F 0 0, O F 0 0, O F 0 0] 29);have ce:=aQ (w.alloc (Y #[B o W, B o H, O Am nm cm, O Ac nc cc, O Ap np cp, O As ns cS] 29)) (Y #[B o 0, B o 0, O F 0 0, O F 0 0, O F 0 0, O F 0 0] 29);rw[World.size_alloc] at ce;have bs:=aN (aV w (Y #[B o W, B o H, O Am nm cm, O Ac nc cc, O Ap np cp, O As ns cS] 29)) (Y #[B o 0, B o 0, O F 0 0, O F 0 0, O F 0 0, O F 0 0] 29);obtain⟨a0,ao,a2,dS,dT,dU⟩:=cx gb;have f9:((w.alloc (Y #[B o W, B o H, O Am nm cm, O Ac nc cc, O Ap np cp, O As ns cS] 29)).alloc (Y #[B o 0, B o 0, O F 0 0, O F 0 0, O F 0 0, O F 0 0] 29)).heap.size=w.heap.size+2:=by simp
 have a8:=rF W H Am Ac Ap As nm cm nc cc np cp ns cS mask cs ms sts _ (hs.below bs) (et.below bs) (hc.below bs) (fW.below bs) (hst.below bs) (by omega) (by omega) (by omega);obtain⟨hz,fx⟩:=ai (g7 W H mask cs ms sts);rw[<-fx] at a8 |-;obtain⟨c0,du,gN,eZ,e0,eQ,bY,b3,c9⟩:=jG a8 (hs.below bs) hs (a7 et hc) (a7 hnm (a7 hnc hnp)) (a7 hAm hAc) bs ce f9;have cb:=@run_makeMap aj;clear hs et hc fW hst hnm hnc hnp hAm hAc gb ce bs a8 fx f9 cb;go_in
 go_wp2_with fail
 generalize (w.alloc (Y #[B o W, B o H, O Am nm cm, O Ac nc cc, O Ap np cp, O As ns cS] 29)).alloc (Y #[B o 0, B o 0, O F 0 0, O F 0 0, O F 0 0, O F 0 0] 29)=w1 at a0 ao a2 dS dT dU c0 du bY b3 c9 |-;refine c0.out.mono ?_;rintro e bD ⟨bt,⟨hF,v,rfl⟩ | ⟨bi,ar,rfl,ft⟩⟩
 ·have gu:=R (bY.out.trans (bt.mono bY.out.size))
  obtain⟨dh,gy⟩:=aY (aG b3.out bt (am b3.out)) hF;clear hF c0 bt a0 ao a2 dS dT dU;obtain⟨gi,z1,z2,gj,z4,gl⟩:=cx dh.out;have gm:=br dh.out;have gp:=am dh.out
  go_wp2_with fail
  have bv:=kU dh.out (B o 0) (B o 0) (O F 0 0) (O F 0 0) (O F 0 0) (O F 0 0);have bu:=kT gu.out (Nat.le_succ w.heap.size) (B o 0) (B o 0) (O F 0 0) (O F 0 0) (O F 0 0) (O F 0 0);generalize (((((bD.setCell ⟨w.heap.size+1,0,F⟩ (B o 0)).setCell ⟨w.heap.size+1,1,F⟩ (B o 0)).setCell ⟨w.heap.size+1,2,F⟩ (O F 0 0)).setCell ⟨w.heap.size+1,3,F⟩ (O F 0 0)).setCell ⟨w.heap.size+1,4,F⟩ (O F 0 0)).setCell ⟨w.heap.size+1,5,F⟩ (O F 0 0)=wF at bv bu |-;obtain⟨cO,cP,cQ,cR,cU,cV⟩:=cx bv;exact cT (v:= .tuple #[aq #[B o 0, B o 0, O F 0 0, O F 0 0, O F 0 0, O F 0 0], B o 10]) (by simp[results,Tryz.results7,go_sem,cO,cP,cQ,cR,cU,cV]) rfl ⟨bu, .inl ⟨gy.out,rfl⟩⟩
 obtain⟨q,L,cg,hk,f2,f1,fB,fp,hL,g2,g0,fR,ea,hN,fz,fv,es,fN,bO⟩:=ft.t;subst hk;obtain⟨gL,gK,dd,dK,hx,gQ,bZ,eX,gB⟩:=jG f2 f1 (a7 fB fp) hL fR fz fv es fN;have bO:=bO;rw[c9.out] at bO;obtain⟨bI,e7,eS,hy,dj⟩:=dY bO bi (bY.out.trans (bt.mono bY.out.size)) (du.out.below bt) (aG b3.out bt (am b3.out));have hsz2:w.heap.size+2<=bD.heap.size:=by have:=bt.size;rw[c9.out] at this;exact this
 have dZ:=bO.cd.bV;have fg:=sS (D ⟨q.aF,0,F⟩) L.length L.length (cg.map fun z=>((z:Nat):Int)) bD (vl (by rw[<-wa];exact bO.c8) (by rw[gM];exact es.symm)) (fun h=>by cases h) (by omega);have eH:=R fg;clear f2 f1 fB fp hL fR fz fv es fN bO bi bt bY du b3 c9 ft fg c0 a0 ao a2 dS dT dU g2 g0
 go_wp2_with fail
 refine eH.out.mono ?_;rintro e cl ⟨hw,a8,rfl,bS,fC⟩;obtain⟨cE,hD,hE,hl,_,_,hO,_⟩:=dF bS ea;cases hl
 obtain⟨e3,c3⟩:=aY bS fC;clear bS fC dZ eH;go_upto_region 5 with fail
 have bU:=aQ cl (Y #[O (D ⟨cE,0,F⟩) L.length a8] 22);have dV:=aV cl (Y #[O (D ⟨cE,0,F⟩) L.length a8] 22);obtain⟨cv,dN⟩:=aY (c3.out.trans (dV.mono c3.out.size)) (bo e3.out dV);have d8:cl.heap.size < (cl.alloc (Y #[O (D ⟨cE,0,F⟩) L.length a8] 22)).heap.size:=by simp
 obtain⟨dq,ep⟩:=ai (cl.heap.size);have fH:bD.heap.size<=dq:=by rw[ep];exact c3.out.size
 rw[<-ep] at bU d8 |-;obtain⟨de,cC⟩:=aY bU (a7 fH d8);clear bU dV d8 ep fH e3 c3;generalize cl.alloc (Y #[O (D ⟨cE,0,F⟩) L.length a8] 22)=w4 at cv dN de cC |-;have fj:∀W:ac,bB aj 17 #[aq #[B o 0, B o 0]] W fun e Z=>e= .returned (aq #[B o (-1), B o 0, B o 0, B o 1, B o 0, B o 0])/\Below W.heap.size W Z:=fun W=>ut 0 0 W (by decide) (by decide);have eL:=R fj;clear fj;go_upto_region 6 with (go_at_call 17;refine aw (eL.out _) fun co fD=> ?_;have c4:=R fD;clear fD)
 have eC:=aQ co (Y #[B o (-1), B o 0, B o 0, B o 1, B o 0, B o 0] 64);have ff:=aV co (Y #[B o (-1), B o 0, B o 0, B o 1, B o 0, B o 0] 64);have dl:=c4.out.trans (ff.mono c4.out.size);obtain⟨cA,e5,fc⟩:=cq (cv.out.trans (dl.mono cv.out.size)) (bo dN.out dl) (aG de.out dl (am de.out));have d9:co.heap.size < (co.alloc (Y #[B o (-1), B o 0, B o 0, B o 1, B o 0, B o 0] 64)).heap.size:=by simp
 obtain⟨aD,eq⟩:=ai (co.heap.size);have fJ:bD.heap.size<=aD:=by rw[eq];exact ec cv.out.size c4.out.size
 rw[<-eq] at eC d9 |-;obtain⟨fd,dH⟩:=aY eC (a7 fJ d9);clear eC ff dl d9 eq fJ dN cv de c4 eL;generalize co.alloc (Y #[B o (-1), B o 0, B o 0, B o 1, B o 0, B o 0] 64)=w6 at cA e5 fc fd dH |-;have ed:=bI.out.below cA.out;have cz:=ed.cd.c1;obtain⟨gE,db⟩:=aY ed (eS.out.trans (cA.out.mono eS.out.size));have eA:=db.out.size;have fS:=bZ.out.maps.len;obtain⟨av,an⟩:=aY fS (show q.bN < bD.heap.size/\q.cD < bD.heap.size/\w.heap.size+2<=q.bN/\w.heap.size+2<=q.cD from⟨(bI.out.map.lt _ rfl).2,(bI.out.at_.lt _ rfl).2,(bI.out.map.lt _ rfl).1,(bI.out.at_.lt _ rfl).1⟩);clear ed fS
 go_wp2_with fail
 have fq:Hid (gP (w.heap.size+2) q L (ef 0 ms) (d6 L (ef 0 ms)) cg (fY cs) w6):=R (by rw[C2];exact gE.out);clear cz;go_loopw [29] (fun v wr=>∃i:Nat,i<=L.length/\v= B o i/\Hid (∀j,j < i->gH L ms j)/\Hid (gP (w.heap.size+2) q L (ef i ms) (d6 L (ef i ms)) cg (fY cs) wr)/\Hid (da w6 wr q.bN q.cD)) (fun v _=>L.length-(intOf v).toNat)
 case atStart=>exact⟨0,by omega,rfl,R (fun j bq=>by omega),fq,R (da.refl _ _ _)⟩
 clear fq;obtain⟨i,al,rfl,cM,bp,A⟩:=hrel;obtain⟨aI,rfl⟩:=ai wr;by_cases aH:i < L.length
 ·obtain⟨t,ht⟩:∃t,L[i]? =D t:=⟨_,bb aH⟩
  obtain⟨m,cK⟩:∃m,ms[i]? =D m:=⟨_,bb (by rw[av.out];exact aH)⟩;have er:ms.getD i zeroV=m:=by rw[cf,cK];rfl
  have fM:L.getD i el=t:=by rw[cf,ht];rfl
  have bP:=bZ.out.bL t (cH ht);have cb:=(bZ.out.maps.may i aH).1;rw[er] at cb;have cL:=r5 cb;obtain⟨_,_,cX,hA,bx,_,I,J,M,P,T,ak⟩:=Rd.mp (ms:=ef i ms) (by rw[kG,av.out];exact Rd.dB bp.out.map) (show i < (ef i ms).length by rw[kG,av.out];exact aH);cases hA
  obtain rfl:m=cX:=cn ((C0 cK).symm.trans bx);simp only[fT] at I J M P T ak;have dm:=fun W:ac=>sB m.1 m.2.1 m.2.2.1 m.2.2.2.1 m.2.2.2.2.1 m.2.2.2.2.2 (-1) 0 0 1 0 0 W (gA (hJ cb) (by omega)) (by constructor <;> omega)
  obtain⟨l,b8⟩:∃x,x=ek m:=⟨_,rfl⟩;have dm:∀W:ac,bB aj 18 #[b2 m, aq #[B o (-1), B o 0, B o 0, B o 1, B o 0, B o 0]] W fun e Z=>e= .returned (b2 l)/\Below W.heap.size W Z:=by rw[b8];exact dm
  rw[<-b8] at cL;have dW:=fun(W:ac) (cF:Below w.heap.size w W)=>rz l.1 l.2.1 l.2.2.1 l.2.2.2.1 l.2.2.2.2.1 l.2.2.2.2.2 t.1 t.2.1 t.2.2 W (gN.out.below cF) (gA (hJ cL) (by omega)) (by have:=bP.1;omega) (by have:=bP.1;omega) (by have:=bP.2.1;omega) (by have:=bP.2.1;omega) bP.2.2.1 bP.2.2.2;obtain⟨ap,dr⟩:=ai (dD l t);rw[show h8 l.1 l.2.1 l.2.2.1 l.2.2.2.1 l.2.2.2.2.1 l.2.2.2.2.2 t.1 t.2.1 t.2.2=ap from dr.symm] at dW;have dX:∀W:ac,bB aj 20 #[b2 l] W fun r Z=>r= .returned (aa (bf l))/\Below W.heap.size W Z:=fun W=>uk l.1 l.2.1 l.2.2.1 l.2.2.2.1 l.2.2.2.2.1 l.2.2.2.2.2 W;rw[cL] at dX;have d1:=fun W:ac=>vQ ap.1 ap.2.1 ap.2.2 W;obtain⟨bW,ev⟩:=ai (eg ap.1 ap.2.1 ap.2.2);rw[<-ev] at d1;have fQ:gH L ms i↔bW=S:=by
   unfold gH kH;rw[er,fM,<-b8,<-dr,<-ev];exact⟨fun h=>h.2,fun h=>⟨cL,h⟩⟩
  have f7:(ef i ms).set i l=ef (i+1) ms:=by rw[b8];exact C1 cK
  have f8:(d6 L (ef i ms)).set i ap=d6 L (ef (i+1) ms):=by rw[dr,b8];exact wV av.out ht cK
  have fr:=A.out;have v0:=fr.il fd.out (by have:=an.out;have:=dH.out;omega) (by have:=an.out;have:=dH.out;omega);have bE:=aB v0;have b0:=bE 0;have b1:=bE 1;have aC:=bE 2;have aM:=bE 3;have bJ:=bE 4;have bM:=bE 5;simp only[List.getElem?_toArray,List.getElem?_cons_zero,List.getElem?_cons_succ] at b0 b1 aC aM bJ bM;obtain⟨_,_,hH,g9,_,_,_,fL⟩:=dF bp.out.map ea;cases g9
  have eW:=R fL;have cz:=bp.out.cd.c1;obtain⟨eG,eJ,eM,eP,dM,c7,dO,e8⟩:=l1 dm dW dX d1 fQ f7 f8 ht;have hQ:(i:Int) < (L.length:Int):=by omega
  have hP:(0:Int)<=(i:Int):=by omega
  clear ht cK er fM bP cb cL dm b8 dW dr dX d1 ev fQ f7 f8 fr v0 bE bx fL;go_upto_region 9 with fail
  refine mb (fin:= ?z1) [15] [14,13,3,4,11,12,2,10,1,8,9,0,7,6,5] [S,S,S,S,S,S,S,S,S,S,S,S,S,S,S,Q] [Q,Q,Q,Q,Q,Q,Q,Q,Q,Q,Q,Q,Q,Q,Q,Q] (fun x=> [ad (D ⟨q.ar,0,F⟩), ad (D ⟨q.ar,0,F⟩), ad (D ⟨q.ar,1,F⟩), O (D ⟨q.bN,0,F⟩) L.length q.cm, B o (i:Int), ad (D ⟨q.ar,0,F⟩), ad (D ⟨q.ar,0,F⟩), ad (D ⟨q.ar,1,F⟩), O (D ⟨q.bN,0,F⟩) L.length q.cm, B o (i:Int), ad (D ⟨q.bN,i*6,F⟩),b2 m, aq #[B o (-1), B o 0, B o 0, B o 1, B o 0, B o 0],b2 l, ad (D ⟨q.bN,i*6,F⟩),(x 0)]) (fun j _ c=>match j with | 0=>c.cell? ⟨q.ar,1,F⟩=D (O (D ⟨q.bN,0,F⟩) L.length q.cm)/\c.cell? ⟨q.bN,i*6,F⟩=D (B o m.1)/\c.cell? ⟨q.bN,i*6+1,F⟩=D (B o m.2.1)/\c.cell? ⟨q.bN,i*6+2,F⟩=D (B o m.2.2.1)/\c.cell? ⟨q.bN,i*6+3,F⟩=D (B o m.2.2.2.1)/\c.cell? ⟨q.bN,i*6+4,F⟩=D (B o m.2.2.2.2.1)/\c.cell? ⟨q.bN,i*6+5,F⟩=D (B o m.2.2.2.2.2)/\c.cell? ⟨aD,0,F⟩=D (B o (-1))/\c.cell? ⟨aD,1,F⟩=D (B o 0)/\c.cell? ⟨aD,2,F⟩=D (B o 0)/\c.cell? ⟨aD,3,F⟩=D (B o 1)/\c.cell? ⟨aD,4,F⟩=D (B o 0)/\c.cell? ⟨aD,5,F⟩=D (B o 0)/\Below aI.heap.size aI c | _=>∃s:ac,(s.cell? ⟨q.ar,1,F⟩=D (O (D ⟨q.bN,0,F⟩) L.length q.cm)/\s.cell? ⟨q.bN,i*6,F⟩=D (B o m.1)/\s.cell? ⟨q.bN,i*6+1,F⟩=D (B o m.2.1)/\s.cell? ⟨q.bN,i*6+2,F⟩=D (B o m.2.2.1)/\s.cell? ⟨q.bN,i*6+3,F⟩=D (B o m.2.2.2.1)/\s.cell? ⟨q.bN,i*6+4,F⟩=D (B o m.2.2.2.2.1)/\s.cell? ⟨q.bN,i*6+5,F⟩=D (B o m.2.2.2.2.2)/\s.cell? ⟨aD,0,F⟩=D (B o (-1))/\s.cell? ⟨aD,1,F⟩=D (B o 0)/\s.cell? ⟨aD,2,F⟩=D (B o 0)/\s.cell? ⟨aD,3,F⟩=D (B o 1)/\s.cell? ⟨aD,4,F⟩=D (B o 0)/\s.cell? ⟨aD,5,F⟩=D (B o 0)/\Below aI.heap.size aI s)/\c=(ji s q.bN i l)) ?hf (by kernel_rfl) (by kernel_rfl) (fun _=>rfl) (by kernel_rfl) ?hv ⟨cz,I,J,M,P,T,ak,b0,b1,aC,aM,bJ,bM,aX.drew⟩ (fun x c hst=> ?hs) ?aK ?bi (fun x c hst=> ?_)
  case hf=>intro x;simp only[aT,a6,bd,ba,bc];exact rfl
  case hv=>
   intro x j t v h;cases j with
   | zero=>cases h;rfl
   | succ j=>simp at h
  case hs=>
   have aL:=R hst;obtain⟨cz,I,J,M,P,T,ak,b0,b1,aC,aM,bJ,bM,E⟩:=hst;iterate 15 refine⟨?_,fun K A=> ?_⟩
   ·trivial
   all_goals try (go_simp;exact A _ aL.out;done)
   go_simp;exact aw (eG.out c) fun wc y=>A _ ⟨V cz y,V I y,V J y,V M y,V P y,V T y,V ak y,V b0 y,V b1 y,V aC y,V aM y,V bJ y,V bM y,ax E y⟩
  case aK=>intro j x c _ _ _;trivial
  case bi=>
   intro j t x c ht hst af ew K A;obtain rfl:j=0:=by cases j with | zero=>rfl | succ j=>simp at ht
   cases ht;cases ew
   have aL:=R hst;obtain⟨cz,I,J,M,P,T,ak,b0,b1,aC,aM,bJ,bM,E⟩:=hst;have cI:=aG eW.out E (am eW.out);have eu:=br cI;have hg:=am cI;go_simp;exact A U _ ⟨_,aL.out,rfl⟩
  obtain⟨s,hst,ej⟩:=hst;obtain⟨cz,I,J,M,P,T,ak,b0,b1,aC,aM,bJ,bM,E⟩:=hst;subst ej;have ei:=(bp.out.below E).ji i l (by rw[kG,av.out];exact aH);rw[c7.out] at ei;obtain⟨aO,c5⟩:=aY ei ((A.out.below E).ji i l);clear E ei bp A cz I J M P T ak b0 b1 aC aM bJ bM eG;generalize ji s q.bN i l=wm at aO c5 |-;have dt:Below w.heap.size w wm:=db.out.trans (c5.out.out (by have:=an.out;omega) (by have:=an.out;omega) eA);have p0:=aO.out.cd.a1;have cz:=aO.out.cd.c1;have b9:=aO.out.cd.c2;have u4:=aO.out.cj.bC;obtain⟨_,_,cX,hA,bx,_,I,J,M,P,T,ak⟩:=Rd.mp (ms:=ef (i+1) ms) (by rw[kG,av.out];exact Rd.dB aO.out.map) (show i < (ef (i+1) ms).length by rw[kG,av.out];exact aH);cases hA
  obtain rfl:l=cX:=by
   have h1:=bx;rw[<-c7.out,e4 (by rw[kG,av.out];exact aH)] at h1;exact cn h1
  simp only[fT] at I J M P T ak;obtain⟨ch,ci,ck⟩:=ey aO.out.ay e8.out;have fi:∀W,Below wm.heap.size wm W->bB aj 19 #[b2 l,bK t] W fun gV Z=>gV= .returned (bK ap)/\Below W.heap.size W Z:=fun W cF=>eJ.out W (dt.trans (cF.mono dt.size));obtain⟨_,_,hG,g6,_,_,_,fK⟩:=dF aO.out.at_ ea;cases g6
  have eV:=R fK;obtain⟨hC,fA⟩:∃u,(d6 L (ef i ms))[i]? =D u:=⟨_,bb (by rw[jA];exact aH)⟩;obtain⟨gd,cY,cZ⟩:=ey aO.out.at_ fA;obtain⟨eK,gv⟩:=aY fi dt;have e9:Hid ((d6 L (ef (i+1) ms))[i]? =D ap):=R (by rw[<-dO.out];exact e4 (by rw[jA];exact aH));clear fi dt eJ bx fK fA;go_upto_region 10 with fail
  refine mb (fin:= ?z2) [24] [23,22,3,4,11,21,2,10,20,1,8,9,18,19,0,7,17,6,16,5,15,14,13,12] [S,S,S,S,S,S,S,S,S,S,S,S,S,S,S,S,S,S,S,S,S,S,S,S,Q] [Q,Q,Q,Q,Q,Q,Q,Q,Q,Q,Q,Q,Q,Q,Q,Q,Q,Q,Q,Q,Q,Q,Q,Q,Q] (fun x=> [ad (D ⟨q.ar,0,F⟩), ad (D ⟨q.ar,0,F⟩), ad (D ⟨q.ar,2,F⟩), O (D ⟨q.cD,0,F⟩) L.length q.eh, B o (i:Int), ad (D ⟨q.ar,0,F⟩), ad (D ⟨q.ar,0,F⟩), ad (D ⟨q.ar,1,F⟩), O (D ⟨q.bN,0,F⟩) L.length q.cm, B o (i:Int), ad (D ⟨q.bN,i*6,F⟩),b2 l, ad (D ⟨q.ar,0,F⟩), ad (D ⟨q.ar,0,F⟩), ad (D ⟨q.ar,0,F⟩), ad (D ⟨q.aA,0,F⟩), ad (D ⟨q.aA,0,F⟩), ad (D ⟨q.aA,4,F⟩), O (D ⟨q.gt,0,F⟩) L.length q.dx, B o (i:Int), ad (D ⟨q.gt,i*3,F⟩),bK t,bK ap, ad (D ⟨q.cD,i*3,F⟩),(x 0)]) (fun j _ c=>match j with | 0=>c.cell? ⟨q.ar,0,F⟩=D (ad (D ⟨q.aA,0,F⟩))/\c.cell? ⟨q.ar,1,F⟩=D (O (D ⟨q.bN,0,F⟩) L.length q.cm)/\c.cell? ⟨q.ar,2,F⟩=D (O (D ⟨q.cD,0,F⟩) L.length q.eh)/\c.cell? ⟨q.aA,4,F⟩=D (O (D ⟨q.gt,0,F⟩) L.length q.dx)/\c.cell? ⟨q.bN,i*6,F⟩=D (B o l.1)/\c.cell? ⟨q.bN,i*6+1,F⟩=D (B o l.2.1)/\c.cell? ⟨q.bN,i*6+2,F⟩=D (B o l.2.2.1)/\c.cell? ⟨q.bN,i*6+3,F⟩=D (B o l.2.2.2.1)/\c.cell? ⟨q.bN,i*6+4,F⟩=D (B o l.2.2.2.2.1)/\c.cell? ⟨q.bN,i*6+5,F⟩=D (B o l.2.2.2.2.2)/\c.cell? ⟨q.gt,i*3,F⟩=D (B o t.1)/\c.cell? ⟨q.gt,i*3+1,F⟩=D (B o t.2.1)/\c.cell? ⟨q.gt,i*3+2,F⟩=D (B o t.2.2)/\Below wm.heap.size wm c | _=>∃s:ac,(s.cell? ⟨q.ar,0,F⟩=D (ad (D ⟨q.aA,0,F⟩))/\s.cell? ⟨q.ar,1,F⟩=D (O (D ⟨q.bN,0,F⟩) L.length q.cm)/\s.cell? ⟨q.ar,2,F⟩=D (O (D ⟨q.cD,0,F⟩) L.length q.eh)/\s.cell? ⟨q.aA,4,F⟩=D (O (D ⟨q.gt,0,F⟩) L.length q.dx)/\s.cell? ⟨q.bN,i*6,F⟩=D (B o l.1)/\s.cell? ⟨q.bN,i*6+1,F⟩=D (B o l.2.1)/\s.cell? ⟨q.bN,i*6+2,F⟩=D (B o l.2.2.1)/\s.cell? ⟨q.bN,i*6+3,F⟩=D (B o l.2.2.2.1)/\s.cell? ⟨q.bN,i*6+4,F⟩=D (B o l.2.2.2.2.1)/\s.cell? ⟨q.bN,i*6+5,F⟩=D (B o l.2.2.2.2.2)/\s.cell? ⟨q.gt,i*3,F⟩=D (B o t.1)/\s.cell? ⟨q.gt,i*3+1,F⟩=D (B o t.2.1)/\s.cell? ⟨q.gt,i*3+2,F⟩=D (B o t.2.2)/\Below wm.heap.size wm s)/\c=(jj s q.cD i ap)) ?hf (by kernel_rfl) (by kernel_rfl) (fun _=>rfl) (by kernel_rfl) ?hv ⟨p0,cz,b9,u4,I,J,M,P,T,ak,ch,ci,ck,aX.drew⟩ (fun x c hst=> ?hs) ?aK ?bi (fun x c hst=> ?he)
  case hf=>intro x;simp only[aT,a6,bd,ba,bc];exact rfl
  case hv=>
   intro x j t v h;cases j with
   | zero=>cases h;rfl
   | succ j=>simp at h
  case hs=>
   have aL:=R hst;obtain⟨p0,cz,b9,u4,I,J,M,P,T,ak,ch,ci,ck,E⟩:=hst;iterate 24 refine⟨?_,fun K A=> ?_⟩
   ·trivial
   all_goals try (go_simp;exact A _ aL.out;done)
   go_simp;exact aw (eK.out c E) fun wc y=>A _ ⟨V p0 y,V cz y,V b9 y,V u4 y,V I y,V J y,V M y,V P y,V T y,V ak y,V ch y,V ci y,V ck y,ax E y⟩
  case aK=>intro j x c _ _ _;trivial
  case bi=>
   intro j t x c ht hst af ew K A;obtain rfl:j=0:=by cases j with | zero=>rfl | succ j=>simp at ht
   cases ht;cases ew
   have aL:=R hst;obtain⟨p0,cz,b9,u4,I,J,M,P,T,ak,ch,ci,ck,E⟩:=hst;have cI:=aG eV.out E (am eV.out);have eu:=br cI;have hg:=am cI;obtain⟨q0,aZ,bm⟩:=lc E gd cY cZ;go_simp;exact A U _ ⟨_,aL.out,rfl⟩
  obtain⟨s,hst,ej⟩:=hst;obtain⟨p0,cz,b9,u4,I,J,M,P,T,ak,ch,ci,ck,E⟩:=hst;subst ej;have eb:=(aO.out.below E).jj i ap (by rw[jA];exact aH);rw[dO.out] at eb;obtain⟨bH,dI⟩:=aY eb ((c5.out.below E).jj i ap);clear E eb aO c5 gv eK p0 cz b9 u4 I J M P T ak ch ci ck gd cY cZ;generalize jj s q.cD i ap=wt at bH dI |-;have cz:=bH.out.cd.c1;have b9:=bH.out.cd.c2;obtain⟨_,_,cX,hA,bx,_,I,J,M,P,T,ak⟩:=Rd.mp (ms:=ef (i+1) ms) (by rw[kG,av.out];exact Rd.dB bH.out.map) (show i < (ef (i+1) ms).length by rw[kG,av.out];exact aH);cases hA
  obtain rfl:l=cX:=by
   have h1:=bx;rw[<-c7.out,e4 (by rw[kG,av.out];exact aH)] at h1;exact cn h1
  simp only[fT] at I J M P T ak;obtain⟨d3,d4,d7⟩:=ey bH.out.at_ e9.out;clear bx;go_upto_region 11 with fail
  obtain⟨gT,dC⟩:∃dR:ae,Hid (dR= aa (!bW)):=⟨_,R rfl⟩;obtain⟨gU,dE⟩:∃dR:ae,Hid (dR= aa (!bW)):=⟨_,R rfl⟩;refine ou (fin:= ?z4) [ad (D ⟨q.ar,0,F⟩), ad (D ⟨q.ar,0,F⟩), ad (D ⟨q.ar,1,F⟩), O (D ⟨q.bN,0,F⟩) L.length q.cm, B o (i:Int), ad (D ⟨q.bN,i*6,F⟩),b2 l, aa S, aa Q, aa Q, ad (D ⟨q.ar,0,F⟩), ad (D ⟨q.ar,0,F⟩), ad (D ⟨q.ar,2,F⟩), O (D ⟨q.cD,0,F⟩) L.length q.eh, B o (i:Int), ad (D ⟨q.cD,i*3,F⟩),bK ap, aa bW,gT,gU] ?hf (by kernel_rfl) rfl fun c E=> ?_;case hf=>simp only[aT,a6,bd,ba,bc];exact rfl
  have aL:=R E;obtain⟨cz,b9,I,J,M,P,T,ak,d3,d4,d7⟩:=vu E cz b9 I J M P T ak d3 d4 d7;constructor
  ·iterate 20 refine⟨?_,fun K A=> ?_⟩
   ·trivial
   ·obtain rfl:=dE.out
    obtain rfl:=dC.out;generalize (!bW)=I at A |-;cases I <;> (go_simp;exact A _ aL.out)
   ·obtain rfl:=dC.out
    cases bW <;> (go_simp;exact A _ aL.out)
   ·go_simp;exact aw (eP.out c) fun wc y=>A _ (ax E y)
   iterate 9 (go_simp;exact A _ aL.out)
   ·go_simp;exact aw (eM.out c) fun wc y=>A _ (ax E y)
   iterate 7 (go_simp;exact A _ aL.out)
  obtain rfl:=dE.out;clear dC dE;obtain⟨gD,dJ⟩:=aY (bH.out.below E) (dI.out.below E);clear E bH dI cz b9 I J M P T ak d3 d4 d7 eM eP;obtain⟨gh,rfl⟩:=ai c;cases bW
  ·have fU:¬∀i,i < L.length->gH L ms i:=fun h=>by have:=dM.out.1 (h i aH);cases this
   have ce:=dJ.out.il (aG dj.out cA.out (am dj.out)) (by have:=an.out;omega) (by have:=an.out;omega);obtain⟨gC,dg⟩:=aY fU ce;have gw:Hid (Below w.heap.size w gh):=R (db.out.trans (dJ.out.out (by have:=an.out;omega) (by have:=an.out;omega) eA));clear fU ce;obtain⟨gi,z1,z2,gj,z4,gl⟩:=cx dg.out;have gm:=br dg.out;have gp:=am dg.out
   go_wp2_with fail
   have bv:=kU dg.out (B o 0) (B o 0) (O F 0 0) (O F 0 0) (O F 0 0) (O F 0 0);have bu:=kT gw.out (Nat.le_succ w.heap.size) (B o 0) (B o 0) (O F 0 0) (O F 0 0) (O F 0 0) (O F 0 0);generalize (((((gh.setCell ⟨w.heap.size+1,0,F⟩ (B o 0)).setCell ⟨w.heap.size+1,1,F⟩ (B o 0)).setCell ⟨w.heap.size+1,2,F⟩ (O F 0 0)).setCell ⟨w.heap.size+1,3,F⟩ (O F 0 0)).setCell ⟨w.heap.size+1,4,F⟩ (O F 0 0)).setCell ⟨w.heap.size+1,5,F⟩ (O F 0 0)=wF at bv bu |-;obtain⟨cO,cP,cQ,cR,cU,cV⟩:=cx bv;exact cT (v:= .tuple #[aq #[B o 0, B o 0, O F 0 0, O F 0 0, O F 0 0, O F 0 0], B o 2]) (by simp[results,Tryz.results7,go_sem,cO,cP,cQ,cR,cU,cV]) rfl ⟨bu, .inr ⟨e7.out,q.W,q.H,L,dd.out.1,dd.out.2,dK.out, .inl ⟨gC.out,rfl⟩⟩⟩
  have bR:=dM.out.2 rfl;have f6:∀j,j < i+1->gH L ms j:=fun j bq=>by
   rcases Nat.lt_or_ge j i with h | h
   ·exact cM.out j h
   obtain rfl:j=i:=by omega
   exact bR
  have gR:=R f6;have hR:b7.wrap ((i:Int)+1)=((i+1:Nat):Int):=by rw[ca _ (by omega)];omega
  clear bR f6 cM dM c7 dO e8 e9;go_wp2;go_roundw
  case rel=>exact⟨i+1,by omega,by first | rfl | go_num,gR,gD,dJ⟩
  case measure=>simp[intOf];omega
 obtain rfl:i=L.length:=by omega
 obtain⟨N,b4⟩:∃N,L.length=N+1:=⟨L.length-1,by omega⟩;have b6:=bp.out;rw[show ef L.length ms=dL ms from by rw[<-av.out];exact rZ ms] at b6;have eo:Below w.heap.size w aI:=db.out.trans (A.out.out (by have:=an.out;omega) (by have:=an.out;omega) eA);have bU:=A.out.il fc.out (by have:=an.out;have:=cC.out;omega) (by have:=an.out;have:=cC.out;omega);have bS:=e5.out;have fI:=bS.lt _ rfl;have dy:=oo (Z:=aI) bS (fun b cF=>by cases cF;exact A.out.bT _ fI.2 (by have:=an.out;omega) (by have:=an.out;omega));have g8:=am bI.out.c8;have hq:=am (show bD.heap[q.ar]? =_ from bI.out.cd);have fk:=am bU;have fu:=dy.lt _ rfl;obtain⟨bX,dw⟩:=ai (cg.map (fun z=>((z:Nat):Int)));rw[<-dw] at dy;have fV:bX.length=N+1:=by rw[dw,gM,eX.out,b4]
 have dv:∀(W:ac) (g size:Nat),aI.heap.size<=g->da aI W q.aF q.ar->CmpLays1 aj 23 #[ad (D ⟨dq,0,F⟩)] (h3 N) (fun a b=>(fun i j:Nat=>cG (bX.getD j 0) (bX.getD i 0)) a b) g 0 size W:=fun W g size g5 ha=>
  De N dq cE a8 bX aI W q.aF q.ar g size fV (by rw[<-b4];exact(aB bU 0).trans rfl) (fun j z bq=>fy (Rd.dB dy) (by simp[bF,bq])) ⟨fk,by have:=cC.out;omega,by have:=cC.out;omega⟩ ⟨fu.2,by omega,by omega⟩ g5 ha
 have bR:∀a ∈ d6 L (dL ms),bj a.1/\bj a.2.1/\bj a.2.2:=fun a g3=>by
  obtain⟨j,bq,rfl⟩:=List.mem_map.1 g3;have bq:=List.mem_range.1 bq;have h1:=(cM.out j bq).2;rw[show dD (ek (ms.getD j zeroV)) (L.getD j el)=bA L (dL ms) j from by
   unfold bA;rw[<-rZ,pX (by rw[av.out];exact bq),if_pos (by rw[av.out];exact bq)]] at h1
  unfold kH eg cJ at h1;simp only[cu,decide_eq_true_eq] at h1;unfold bj;omega
 have fh:=yS L.length N q.ar q.aA q.aF q.aJ (w.heap.size+2) 23 #[ad (D ⟨dq,0,F⟩)] (fun i j:Nat=>cG (bX.getD j 0) (bX.getD i 0)) (O (D ⟨q.bN,0,F⟩) L.length q.cm) (O (D ⟨q.cD,0,F⟩) L.length q.eh) (d6 L (dL ms)) cg aI (jA _ _) (CU bX) (enters_of Tryz.func23 (by kernel_rfl) rfl) dv b4 (by omega) bR b6.cd b6.at_ eX.out b6.c8;obtain⟨eI,e1,gF,gx⟩:=df fh b6 dw eo;have hi:=eo.size;obtain⟨gq,gS⟩:=aY cM.out (A.out.il (aG dj.out cA.out (am dj.out)) (by have:=an.out;omega) (by have:=an.out;omega));clear b6 bU bS fI dy g8 hq fk fu dw fV dv bR fh eo cM bp A b4
 go_wp2_with (go_at_call 22;refine eI.out.mono ?_;rintro e gg ⟨rfl,f,G,hr,fZ,fw,fG,fo,f0,bQ⟩;have gG:=R fZ;have gI:=R fw;have eU:=R fG;have dG:=R fo;have gJ:=R f0;have gz:=R bQ;clear fZ fw fG fo f0 bQ eI)
 have bQ:=gz.out;obtain⟨ex,ga,fP⟩:=e1.out.fX bQ;rw[gL.out,gK.out] at ex;have g4:=e1.out.e6;have fE:Below w.heap.size aI gg:=bQ.out (by omega) (by omega) hi;have cB:=R (gx.out.trans fE);have fl:∀x,∀i ∈ G x,i < L.length:=fun x i al=>by have:=(k3.1 ((dG.out x).mem_iff.1 al)).1;rwa [jA] at this
 have fm:∀x,(G x).length<=1000:=fun x=>by rw[(dG.out x).length_eq];have:=q9 (d6 L (dL ms)) (d6 L (dL ms)).length x;rw[jA] at this;rw[jA];omega
 have fs:∀aE:List ah,aE.Nodup->(∀x ∈ aE,(f x).isSome=S)->aE.length<=1000:=fun aE hn eB=>ec (ik hn (fun x h=>(eU.out x).1 (eB x h))) (by rw[jA];omega);have fO:=eZ.out.1.below cB.out;have fF:=eZ.out.2.below cB.out;have cS:=CI q.ar q.aA q.bz q.bg q.W q.H aI.heap.size _ aI.heap.size hr Am Ac (D ⟨q.bN,0,F⟩) nm cm nc cc L.length q.cm q.dx q.gt mask cs (dL ms) _ _ L q.dc _ _ f G gg ex ga gG.out gI.out fO fF (Rd.dB fP) e0.out.1 e0.out.2.1 (by omega) eQ.out.1 eQ.out.2 (fun e=>by cases e) (by omega) fl fm fs;obtain⟨dQ,eN⟩:=aY (bQ.il gS.out (by omega) (by omega)) cS;clear bQ ex ga fP g4 fE fl fm fs fO fF cS;refine eN.out.mono ?_;rintro e hu ⟨a4,bk,a3,be,a5,bl,aU,a9,aE,rfl,cN,ct,ee,eE,hnd,f5,em⟩;have ez:=Di bZ.out.eR bZ.out.bL bZ.out.maps (by have h:=gQ.out.pT;rw[<-dK.out] at h;exact h) gB.out hnd (fun x=>(f5 x).trans (eU.out x)) dG.out (by rw[<-gF.out];exact gJ.out)
 have f4:aE.length=(d5 L (fun i=>dD (ek (ms.getD i zeroV)) (L.getD i el)) ((L.map (cy sts)).map fun z=>-z) L.length).length:=by rw[<-ez,fb,gM,(mi aE).length_eq]
 rw[ez] at eE;obtain⟨gO,c6,dk,gr⟩:=df f4 (a7 cN (a7 ct (a7 ee eE))) (aG dQ.out em (am dQ.out)) (cB.out.trans (em.mono cB.out.size));have dz:=cB.out.size;clear eN cN ct ee eE hnd f5 em dQ f4 ez;obtain⟨gi,z1,z2,gj,z4,gl⟩:=cx dk.out;have gm:=br dk.out;have gp:=am dk.out
 go_wp2_with fail
 have cW:=dk.out;have cY:=hM c6.out.1 cW (by decide) (B o (q.W:Int)) (B o (q.H:Int)) (O a4 nm bk) (O a3 nc be) (O a5 L.length bl) (O aU aE.length a9);have cZ:=hM c6.out.2.1 cW (by decide) (B o (q.W:Int)) (B o (q.H:Int)) (O a4 nm bk) (O a3 nc be) (O a5 L.length bl) (O aU aE.length a9);have ge:=hM c6.out.2.2.1 cW (by decide) (B o (q.W:Int)) (B o (q.H:Int)) (O a4 nm bk) (O a3 nc be) (O a5 L.length bl) (O aU aE.length a9);have gf:=c6.out.2.2.2.jh cW (by decide) (by decide) (B o (q.W:Int)) (B o (q.H:Int)) (O a4 nm bk) (O a3 nc be) (O a5 L.length bl) (O aU aE.length a9);have bv:=kU cW (B o (q.W:Int)) (B o (q.H:Int)) (O a4 nm bk) (O a3 nc be) (O a5 L.length bl) (O aU aE.length a9)
 have bu:=kT gr.out (Nat.le_succ w.heap.size) (B o (q.W:Int)) (B o (q.H:Int)) (O a4 nm bk) (O a3 nc be) (O a5 L.length bl) (O aU aE.length a9);generalize (((((hu.setCell ⟨w.heap.size+1,0,F⟩ (B o (q.W:Int))).setCell ⟨w.heap.size+1,1,F⟩ (B o (q.H:Int))).setCell ⟨w.heap.size+1,2,F⟩ (O a4 nm bk)).setCell ⟨w.heap.size+1,3,F⟩ (O a3 nc be)).setCell ⟨w.heap.size+1,4,F⟩ (O a5 L.length bl)).setCell ⟨w.heap.size+1,5,F⟩ (O aU aE.length a9)=wF at bv bu cY cZ ge gf |-;obtain⟨cO,cP,cQ,cR,cU,cV⟩:=cx bv;exact cT (v:= .tuple #[aq #[B o (q.W:Int), B o (q.H:Int), O a4 nm bk, O a3 nc be, O a5 L.length bl, O aU aE.length a9], B o 0]) (by simp[results,Tryz.results7,go_sem,cO,cP,cQ,cR,cU,cV]) rfl ⟨bu, .inr ⟨e7.out,q.W,q.H,L,dd.out.1,dd.out.2,dK.out, .inr ⟨gq.out,_,rfl,a4,bk,a3,be,a5,bl,aU,aE.length,a9,gO.out,rfl,dn cY dz,dn cZ dz,dn ge dz,gf.mono dz⟩⟩⟩
end
end Go.Proofs.YteaeipgfjmnecaaGreatDoor

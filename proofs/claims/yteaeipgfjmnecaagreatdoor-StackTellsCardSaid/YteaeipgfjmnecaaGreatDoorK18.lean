/- Lemmas; each says its own conditions. -/
import Derived.Test.YteaeipgfjmnecaaGreatDoorK16
open Bool renaming false->Q
open Decidable renaming decide->au
open Go renaming Value->ae,undef->U
open Go.Act renaming put->a6
open Go.IntKind renaming i64->o
open List renaming setIfInBounds_toArray->bd,set_cons_succ->ba,set_cons_zero->bc
open Go.Obj renaming cells->Y
open Option renaming none->F,some->D
open Go.Proofs.Tryz renaming prog->aj
open Go.Value renaming agg->aq,bool->aa,int->B,pointer->ad,slice->O
namespace Go.Proofs.YteaeipgfjmnecaaGreatDoor
set_option linter.unusedSimpArgs false
set_option linter.unusedVariables false
set_option maxHeartbeats 12800000
section
set_option maxRecDepth 100000
open Go.RowKit Go.Maps
variable {af:Int}{L:List ah}{ms:List aR}{i:Nat}
def hx(L:List ah)(ms:List aR)(h:List Int)(i:Nat)(af:Int)(A:Nat)(bX:Int):Int:=
 bif gB L ms i af && gB L ms A bX && (au (be h (i:Int) < be h (A:Int)) !=au (be h af < be h bX)) then 1
 else bif fA L ms i af && gB L ms A bX && gS (be h (A:Int)) (be h (i:Int)) (be h af) then 2
 else bif fA L ms i af && fA L ms A bX && !au ((A:Int)=af) && (gS (be h (A:Int)) (be h (i:Int)) (be h af) !=gS (be h bX) (be h (i:Int)) (be h af)) then 3 else 0
theorem xi(L:List ah)(ms:List aR)(cs:List bw)(h:List Int)(i k A dq:Nat):hx L ms h i (c0 L ms cs i k).an A (c0 L ms cs A dq).an=ip h (c0 L ms cs i k) (c0 L ms cs A dq):=by
 unfold hx ip;rw[oX,oX,s0,s0];rfl
theorem ts(h:¬0<=af):fA L ms i af=Q:=by unfold fA;rw[decide_eq_false h];rfl
theorem tC(h:¬0<=af):gB L ms i af=Q:=by unfold gB;rw[decide_eq_false h];rfl
theorem xn(q:ho)(L:List ah)(ms:List aR)(h:List Int)(aU:aO->Option Int)(i A:Nat)(af bX:Int)(w:World)(dm:fe q L ms h aU w)(al:i < L.length)(a7:A < L.length)(bi:af < (L.length:Int))(bj:bX < (L.length:Int)):
  Calls aj 50 #[ad (D ⟨q.ar,0,F⟩), aq #[B o (i:Int), B o af], aq #[B o (A:Int), B o bX]] w fun r Z=>r= .returned (B o (hx L ms h i af A bX))/\Below w.heap.size w Z:=by
 have dr:=heap_alloc_new w (Y #[B o (i:Int), B o af] 106);have dt:=aW dr (Y #[B o (A:Int), B o bX] 106);have c9:=heap_alloc_new (w.alloc (Y #[B o (i:Int), B o af] 106)) (Y #[B o (A:Int), B o bX] 106);rw[World.size_alloc] at c9;have c2:=aN (aV w (Y #[B o (i:Int), B o af] 106)) (Y #[B o (A:Int), B o bX] 106);obtain⟨a1,c1⟩:=d7 dt;obtain⟨d0,d1⟩:=d7 c9;have a8:=dm.below c2;obtain⟨a2,ao⟩:=ai (hx L ms h i af A bX);rw[<-ao];unfold hx at ao;have aG:=fun(W:World) (aA:Below ((w.alloc (Y #[B o (i:Int), B o af] 106)).alloc (Y #[B o (A:Int), B o bX] 106)).heap.size ((w.alloc (Y #[B o (i:Int), B o af] 106)).alloc (Y #[B o (A:Int), B o bX] 106)) W)=>tD q L ms h aU i af W (a8.below aA) al bi
 have aP:=fun(W:World) (aA:Below ((w.alloc (Y #[B o (i:Int), B o af] 106)).alloc (Y #[B o (A:Int), B o bX] 106)).heap.size ((w.alloc (Y #[B o (i:Int), B o af] 106)).alloc (Y #[B o (A:Int), B o bX] 106)) W)=>tD q L ms h aU A bX W (a8.below aA) a7 bj;have aE:=fun(W:World) (aA:Below ((w.alloc (Y #[B o (i:Int), B o af] 106)).alloc (Y #[B o (A:Int), B o bX] 106)).heap.size ((w.alloc (Y #[B o (i:Int), B o af] 106)).alloc (Y #[B o (A:Int), B o bX] 106)) W)=>q7 q L ms h aU i af W (a8.below aA) al bi;have aM:=fun(W:World) (aA:Below ((w.alloc (Y #[B o (i:Int), B o af] 106)).alloc (Y #[B o (A:Int), B o bX] 106)).heap.size ((w.alloc (Y #[B o (i:Int), B o af] 106)).alloc (Y #[B o (A:Int), B o bX] 106)) W)=>q7 q L ms h aU A bX W (a8.below aA) a7 bj
 obtain⟨aL,aC,fh,fi⟩:=df c2 a8 al a7;clear dr dt c9 c2 dm a8;by_cases h0:0<=af
 rotate_left
 ·have hf:=ts (L:=L) (ms:=ms) (i:=i) h0
  have a0:=tC (L:=L) (ms:=ms) (i:=i) h0;rw[hf,a0] at ao;simp only[a0] at aG;simp only[hf] at aE;obtain⟨dA,aI,aD,av,aQ⟩:=dY h0 aG aP aE aM;clear h0 hf a0 bi bj aG aP aE aM;go_in
  go_wp2_with fail
  generalize (w.alloc (Y #[B o (i:Int), B o af] 106)).alloc (Y #[B o (A:Int), B o bX] 106)=w1 at aI aD av aQ aL aC a1 c1 d0 d1 |-;have M:Hid (Below w1.heap.size w1 w1):=R aX;refine bW (fin:= ?z2) [ad (D ⟨q.ar,0,F⟩), aq #[B o (i:Int), B o af], aa Q, aa Q,U,U,U, aa Q, aa Q,U,U,U,U,U,U,U,U,U,U,U,U,U,U,U,U,U,U,U,U,U,U,U,U,U,U,U,U,U,U,U,U,U,U,U, aa Q, aa Q] ?hf bp (by kernel_rfl) rfl fun E hst=> ?_;case hf=>simp only[aT,a6,bd,ba,bc];exact rfl
  have y:=R hst;have z:=hst;obtain⟨a1,c1,d0,d1⟩:=fQ z a1 c1 d0 d1;constructor
  ·iterate 46 refine⟨?_,fun K a=> ?_⟩
   ·trivial
   iterate 43 (go_simp;exact a _ y.out)
   ·go_simp;exact aw (aI.out E (ax M.out z)) fun wc s=>a _ (ax z s)
   iterate 2 (go_simp;exact a _ y.out)
  have ay:=R (ax M.out z);clear M z;go_upto_region 3 with fail
  have M:Hid (Below w1.heap.size w1 E):=R ay.out;obtain⟨ff,rfl⟩:=ai E;refine ou (fin:= ?z4) [ad (D ⟨q.ar,0,F⟩), aq #[B o (i:Int), B o af], aa Q, aa Q,U,U,U, aa Q, aa Q,U,U,U,U,U, aa Q, aa Q] ?hf (by kernel_rfl) rfl fun E hst=> ?_;case hf=>simp only[aT,a6,bd,ba,bc];exact rfl
  have y:=R hst;have z:=hst;obtain⟨a1,c1,d0,d1⟩:=fQ z a1 c1 d0 d1;constructor
  ·iterate 16 refine⟨?_,fun K a=> ?_⟩
   ·trivial
   iterate 13 (go_simp;exact a _ y.out)
   ·go_simp;exact aw (av.out E (ax M.out z)) fun wc s=>a _ (ax z s)
   iterate 2 (go_simp;exact a _ y.out)
  have ay:=R (ax M.out z);clear M z
  go_wp2_with fail
  have M:Hid (Below w1.heap.size w1 E):=R ay.out;obtain⟨fg,rfl⟩:=ai E;refine bW (fin:= ?z6) [ad (D ⟨q.ar,0,F⟩), aq #[B o (i:Int), B o af], aa Q, aa Q,U,U,U, aa Q, aa Q,U,U,U,U,U, aa Q, aa Q,U,U,U,U,U,U,U,U,U,U,U, aa Q, aa Q] ?hf bp (by kernel_rfl) rfl fun E z=> ?_;case hf=>simp only[aT,a6,bd,ba,bc];exact rfl
  have J:=R z;obtain⟨a1,c1,d0,d1⟩:=fQ z a1 c1 d0 d1;constructor
  ·iterate 29 refine⟨?_,fun K a=> ?_⟩
   ·trivial
   iterate 26 (go_simp;exact a _ J.out)
   ·go_simp;exact aw (av.out E (ax M.out z)) fun wc s=>a _ (ax z s)
   iterate 2 (go_simp;exact a _ J.out)
  have ay:=R (ax M.out z);clear M z;have aB:=R (ax aL.out ay.out);have P:a2=0:=by
   rw[ao];simp
  have az:=R P;clear P ao;go_wp2;go_ret;exact⟨ez az.out.symm,aB.out⟩
 obtain⟨j,rfl⟩:∃j:Nat,af=(j:Int):=⟨af.toNat,by omega⟩;have bh:j < L.length:=by omega
 by_cases bb:0<=bX
 rotate_left
 ·have hf:=ts (L:=L) (ms:=ms) (i:=A) bb
  have a0:=tC (L:=L) (ms:=ms) (i:=A) bb;rw[hf,a0] at ao;simp only[a0] at aP;simp only[hf] at aM;obtain⟨l,bg⟩:=ai (gB L ms i (j:Int));obtain⟨c,bf⟩:=ai (fA L ms i (j:Int));simp only[<-bg] at aG ao;simp only[<-bf] at aE ao;obtain⟨dA,aI,aD,av,aQ⟩:=dY bb aG aP aE aM;clear bb hf a0 bi bj bg bf h0 bh aG aP aE aM;go_in
  go_wp2_with fail
  generalize (w.alloc (Y #[B o (i:Int), B o (j:Int)] 106)).alloc (Y #[B o (A:Int), B o bX] 106)=w1 at aI aD av aQ aL aC a1 c1 d0 d1 |-;have M:Hid (Below w1.heap.size w1 w1):=R aX;obtain⟨e2,cQ⟩:∃b:ae,Hid (b=(bif l then ad (D ⟨q.ar,0,F⟩) else U)):=⟨_,R rfl⟩;obtain⟨e3,cR⟩:∃b:ae,Hid (b=(bif l then aq #[B o (A:Int), B o bX] else U)):=⟨_,R rfl⟩;obtain⟨e4,cT⟩:∃b:ae,Hid (b=(bif l then aa Q else U)):=⟨_,R rfl⟩;refine bW (fin:= ?z8) [ad (D ⟨q.ar,0,F⟩), aq #[B o (i:Int), B o (j:Int)], aa l, aa l,e2,e3,e4, aa Q, aa Q,U,U,U,U,U,U,U,U,U,U,U,U,U,U,U,U,U,U,U,U,U,U,U,U,U,U,U,U,U,U,U,U,U,U,U, aa Q, aa Q] ?hf bp (by kernel_rfl) rfl fun E hst=> ?_
  case hf=>simp only[aT,a6,bd,ba,bc];exact rfl
  have y:=R hst;have z:=hst;obtain⟨a1,c1,d0,d1⟩:=fQ z a1 c1 d0 d1;constructor
  ·iterate 46 refine⟨?_,fun K a=> ?_⟩
   ·trivial
   iterate 38 (go_simp;exact a _ y.out)
   ·obtain rfl:=cT.out
    cases l <;> (go_simp;exact a _ y.out)
   ·obtain rfl:=cT.out
    obtain rfl:=cQ.out;obtain rfl:=cR.out;cases l <;> first | (go_simp;exact a _ y.out;done) | (go_simp;exact aw (aD.out E (ax M.out z)) fun wc s=>a _ (ax z s))
   ·obtain rfl:=cR.out
    cases l <;> (go_simp;exact a _ y.out)
   ·obtain rfl:=cQ.out
    cases l <;> (go_simp;exact a _ y.out)
   ·cases l <;> (go_simp;exact a _ y.out)
   ·go_simp;exact aw (aI.out E (ax M.out z)) fun wc s=>a _ (ax z s)
   iterate 2 (go_simp;exact a _ y.out)
  clear cQ cR cT;have ay:=R (ax M.out z);clear M z;go_upto_region 3 with fail
  have M:Hid (Below w1.heap.size w1 E):=R ay.out;obtain⟨ff,rfl⟩:=ai E;obtain⟨e5,cU⟩:∃b:ae,Hid (b=(bif c then ad (D ⟨q.ar,0,F⟩) else U)):=⟨_,R rfl⟩;obtain⟨e6,cV⟩:∃b:ae,Hid (b=(bif c then aq #[B o (A:Int), B o bX] else U)):=⟨_,R rfl⟩;obtain⟨e7,cW⟩:∃b:ae,Hid (b=(bif c then aa Q else U)):=⟨_,R rfl⟩;refine ou (fin:= ?z10) [ad (D ⟨q.ar,0,F⟩), aq #[B o (i:Int), B o (j:Int)], aa c, aa c,e5,e6,e7, aa Q, aa Q,U,U,U,U,U, aa Q, aa Q] ?hf (by kernel_rfl) rfl fun E hst=> ?_;case hf=>simp only[aT,a6,bd,ba,bc];exact rfl
  have y:=R hst;have z:=hst;obtain⟨a1,c1,d0,d1⟩:=fQ z a1 c1 d0 d1;constructor
  ·iterate 16 refine⟨?_,fun K a=> ?_⟩
   ·trivial
   iterate 8 (go_simp;exact a _ y.out)
   ·obtain rfl:=cW.out
    cases c <;> (go_simp;exact a _ y.out)
   ·obtain rfl:=cW.out
    obtain rfl:=cU.out;obtain rfl:=cV.out;cases c <;> first | (go_simp;exact a _ y.out;done) | (go_simp;exact aw (aD.out E (ax M.out z)) fun wc s=>a _ (ax z s))
   ·obtain rfl:=cV.out
    cases c <;> (go_simp;exact a _ y.out)
   ·obtain rfl:=cU.out
    cases c <;> (go_simp;exact a _ y.out)
   ·cases c <;> (go_simp;exact a _ y.out)
   ·go_simp;exact aw (av.out E (ax M.out z)) fun wc s=>a _ (ax z s)
   iterate 2 (go_simp;exact a _ y.out)
  clear cU cV cW;have ay:=R (ax M.out z);clear M z
  go_wp2_with fail
  have M:Hid (Below w1.heap.size w1 E):=R ay.out;obtain⟨fg,rfl⟩:=ai E;obtain⟨dC,bn⟩:∃b:ae,Hid (b=(bif c then ad (D ⟨q.ar,0,F⟩) else U)):=⟨_,R rfl⟩;obtain⟨dD,bo⟩:∃b:ae,Hid (b=(bif c then aq #[B o (A:Int), B o bX] else U)):=⟨_,R rfl⟩;obtain⟨dE,bq⟩:∃b:ae,Hid (b=(bif c then aa Q else U)):=⟨_,R rfl⟩;refine bW (fin:= ?z12) [ad (D ⟨q.ar,0,F⟩), aq #[B o (i:Int), B o (j:Int)], aa c, aa c,dC,dD,dE, aa Q, aa Q,U,U,U,U,U, aa Q, aa Q,U,U,U,U,U,U,U,U,U,U,U, aa Q, aa Q] ?hf bp (by kernel_rfl) rfl fun E z=> ?_;case hf=>simp only[aT,a6,bd,ba,bc];exact rfl
  have J:=R z;obtain⟨a1,c1,d0,d1⟩:=fQ z a1 c1 d0 d1;constructor
  ·iterate 29 refine⟨?_,fun K a=> ?_⟩
   ·trivial
   iterate 21 (go_simp;exact a _ J.out)
   ·obtain rfl:=bq.out
    cases c <;> (go_simp;exact a _ J.out)
   ·obtain rfl:=bq.out
    obtain rfl:=bn.out;obtain rfl:=bo.out;cases c <;> first | (go_simp;exact a _ J.out;done) | (go_simp;exact aw (aQ.out E (ax M.out z)) fun wc s=>a _ (ax z s))
   ·obtain rfl:=bo.out
    cases c <;> (go_simp;exact a _ J.out)
   ·obtain rfl:=bn.out
    cases c <;> (go_simp;exact a _ J.out)
   ·cases c <;> (go_simp;exact a _ J.out)
   ·go_simp;exact aw (av.out E (ax M.out z)) fun wc s=>a _ (ax z s)
   iterate 2 (go_simp;exact a _ J.out)
  clear bn bo bq;have ay:=R (ax M.out z);clear M z;have aB:=R (ax aL.out ay.out);have P:a2=0:=by
   rw[ao];simp
  have az:=R P;clear P ao;go_wp2;go_ret;exact⟨ez az.out.symm,aB.out⟩
 obtain⟨N,rfl⟩:∃N:Nat,bX=(N:Int):=⟨bX.toNat,by omega⟩;have c6:N < L.length:=by omega
 have cY:=fun(W:World) (aA:Below ((w.alloc (Y #[B o (i:Int), B o (j:Int)] 106)).alloc (Y #[B o (A:Int), B o (N:Int)] 106)).heap.size ((w.alloc (Y #[B o (i:Int), B o (j:Int)] 106)).alloc (Y #[B o (A:Int), B o (N:Int)] 106)) W)=>sI q L ms h aU A i j W (aC.out.below aA) a7 al bh;have cZ:=fun(W:World) (aA:Below ((w.alloc (Y #[B o (i:Int), B o (j:Int)] 106)).alloc (Y #[B o (A:Int), B o (N:Int)] 106)).heap.size ((w.alloc (Y #[B o (i:Int), B o (j:Int)] 106)).alloc (Y #[B o (A:Int), B o (N:Int)] 106)) W)=>sI q L ms h aU N i j W (aC.out.below aA) c6 al bh;have ag:=aC.out.cd.bV;have S:=aC.out.i8 al;have ab:=aC.out.i8 a7;have T:=aC.out.i8 bh;have ac:=aC.out.i8 c6;obtain⟨l,bg⟩:=ai (gB L ms i (j:Int))
 obtain⟨c,bf⟩:=ai (fA L ms i (j:Int));obtain⟨g,dl⟩:=ai (gB L ms A (N:Int));obtain⟨G,dk⟩:=ai (fA L ms A (N:Int));obtain⟨aS,dg⟩:=ai (be h (i:Int));obtain⟨a3,di⟩:=ai (be h (A:Int));obtain⟨aZ,dh⟩:=ai (be h (j:Int));obtain⟨a4,dj⟩:=ai (be h (N:Int));obtain⟨aH,dn⟩:=ai (gS a3 aS aZ);obtain⟨z2,dp⟩:=ai (gS a4 aS aZ);simp only[<-bg,<-dl,<-bf,<-dk,<-dg,<-di,<-dh,<-dj,<-dn,<-dp] at aG aP aE aM cY cZ S T ab ac ao;obtain⟨ap,c3⟩:=ai (au (aS < a3));obtain⟨ak,c4⟩:=ai (au (aZ < a4));obtain⟨a5,c5⟩:=ai ((ap !=ak));obtain⟨nq,c7⟩:=ai (!au ((A:Int)=(j:Int)));obtain⟨a9,c8⟩:=ai ((aH !=z2));rw[<-c3,<-c4,<-c5,<-c7,<-c8] at ao;obtain⟨bl,dw,dx,dy,dz,dB⟩:=ft ao c3 c4 c5 c7 c8
 have fj:(0:Int)<=(i:Int):=by omega
 have fl:(0:Int)<=(j:Int):=by omega
 have fk:(0:Int)<=(A:Int):=by omega
 have fm:(0:Int)<=(N:Int):=by omega
 have e8:(i:Int) < (L.length:Int):=by omega
 have fa:(j:Int) < (L.length:Int):=by omega
 have e9:(A:Int) < (L.length:Int):=by omega
 have fb:(N:Int) < (L.length:Int):=by omega
 obtain⟨n,hn⟩:=ai (L.length);rw[<-hn] at e8 fa e9 fb ag;obtain⟨bm,da,aI,aD,av,aQ⟩:=ft cY cZ aG aP aE aM;clear bg bf dl dk dg di dh dj dn dp ao c3 c4 c5 c7 c8 h0 bb bi bj bh c6 al a7 hn cY cZ aG aP aE aM;go_in;go_upto_region 1 with fail
 generalize (w.alloc (Y #[B o (i:Int), B o (j:Int)] 106)).alloc (Y #[B o (A:Int), B o (N:Int)] 106)=w1 at aI aD av aQ aL aC a1 c1 d0 d1 ag S T ab ac bm da |-;obtain⟨ee,b2⟩:∃b:ae,Hid (b=(bif l then ad (D ⟨q.ar,0,F⟩) else U)):=⟨_,R rfl⟩;obtain⟨el,b9⟩:∃b:ae,Hid (b=(bif l then aq #[B o (A:Int), B o (N:Int)] else U)):=⟨_,R rfl⟩;obtain⟨em,ca⟩:∃b:ae,Hid (b=(bif l then aa g else U)):=⟨_,R rfl⟩;obtain⟨en,cb⟩:∃b:ae,Hid (b= aa (l && g)):=⟨_,R rfl⟩;obtain⟨eo,I⟩:∃b:ae,Hid (b= aa (l && g)):=⟨_,R rfl⟩;obtain⟨ep,ce⟩:∃b:ae,Hid (b=(bif (l && g) then ad (D ⟨q.ar,0,F⟩) else U)):=⟨_,R rfl⟩
 obtain⟨dF,br⟩:∃b:ae,Hid (b=(bif (l && g) then ad (D ⟨q.ar,0,F⟩) else U)):=⟨_,R rfl⟩;obtain⟨dG,bs⟩:∃b:ae,Hid (b=(bif (l && g) then ad (D ⟨q.ar,3,F⟩) else U)):=⟨_,R rfl⟩;obtain⟨dH,bt⟩:∃b:ae,Hid (b=(bif (l && g) then O (D ⟨q.aF,0,F⟩) n n else U)):=⟨_,R rfl⟩;obtain⟨dI,bu⟩:∃b:ae,Hid (b=(bif (l && g) then ad (D ⟨w.heap.size,0,F⟩) else U)):=⟨_,R rfl⟩;obtain⟨dJ,bv⟩:∃b:ae,Hid (b=(bif (l && g) then B o (i:Int) else U)):=⟨_,R rfl⟩;obtain⟨dK,bx⟩:∃b:ae,Hid (b=(bif (l && g) then ad (D ⟨q.aF,i,F⟩) else U)):=⟨_,R rfl⟩;obtain⟨dL,bz⟩:∃b:ae,Hid (b=(bif (l && g) then B o aS else U)):=⟨_,R rfl⟩
 obtain⟨dM,bA⟩:∃b:ae,Hid (b=(bif (l && g) then ad (D ⟨q.ar,0,F⟩) else U)):=⟨_,R rfl⟩;obtain⟨dN,bB⟩:∃b:ae,Hid (b=(bif (l && g) then ad (D ⟨q.ar,0,F⟩) else U)):=⟨_,R rfl⟩;obtain⟨dO,bC⟩:∃b:ae,Hid (b=(bif (l && g) then ad (D ⟨q.ar,3,F⟩) else U)):=⟨_,R rfl⟩;obtain⟨dP,bD⟩:∃b:ae,Hid (b=(bif (l && g) then O (D ⟨q.aF,0,F⟩) n n else U)):=⟨_,R rfl⟩;obtain⟨dQ,bE⟩:∃b:ae,Hid (b=(bif (l && g) then ad (D ⟨w.heap.size+1,0,F⟩) else U)):=⟨_,R rfl⟩;obtain⟨dS,bF⟩:∃b:ae,Hid (b=(bif (l && g) then B o (A:Int) else U)):=⟨_,R rfl⟩;obtain⟨dT,bG⟩:∃b:ae,Hid (b=(bif (l && g) then ad (D ⟨q.aF,A,F⟩) else U)):=⟨_,R rfl⟩
 obtain⟨dU,bH⟩:∃b:ae,Hid (b=(bif (l && g) then B o a3 else U)):=⟨_,R rfl⟩;obtain⟨dV,bI⟩:∃b:ae,Hid (b=(bif (l && g) then aa ap else U)):=⟨_,R rfl⟩;obtain⟨dW,bJ⟩:∃b:ae,Hid (b=(bif (l && g) then ad (D ⟨q.ar,0,F⟩) else U)):=⟨_,R rfl⟩;obtain⟨dX,bK⟩:∃b:ae,Hid (b=(bif (l && g) then ad (D ⟨q.ar,0,F⟩) else U)):=⟨_,R rfl⟩;obtain⟨dZ,bL⟩:∃b:ae,Hid (b=(bif (l && g) then ad (D ⟨q.ar,3,F⟩) else U)):=⟨_,R rfl⟩;obtain⟨d2,bM⟩:∃b:ae,Hid (b=(bif (l && g) then O (D ⟨q.aF,0,F⟩) n n else U)):=⟨_,R rfl⟩;obtain⟨d3,bN⟩:∃b:ae,Hid (b=(bif (l && g) then ad (D ⟨w.heap.size,1,F⟩) else U)):=⟨_,R rfl⟩
 obtain⟨d4,bO⟩:∃b:ae,Hid (b=(bif (l && g) then B o (j:Int) else U)):=⟨_,R rfl⟩;obtain⟨d5,bP⟩:∃b:ae,Hid (b=(bif (l && g) then ad (D ⟨q.aF,j,F⟩) else U)):=⟨_,R rfl⟩;obtain⟨d6,bQ⟩:∃b:ae,Hid (b=(bif (l && g) then B o aZ else U)):=⟨_,R rfl⟩;obtain⟨d8,bR⟩:∃b:ae,Hid (b=(bif (l && g) then ad (D ⟨q.ar,0,F⟩) else U)):=⟨_,R rfl⟩;obtain⟨d9,bS⟩:∃b:ae,Hid (b=(bif (l && g) then ad (D ⟨q.ar,0,F⟩) else U)):=⟨_,R rfl⟩;obtain⟨ea,bT⟩:∃b:ae,Hid (b=(bif (l && g) then ad (D ⟨q.ar,3,F⟩) else U)):=⟨_,R rfl⟩;obtain⟨eb,bU⟩:∃b:ae,Hid (b=(bif (l && g) then O (D ⟨q.aF,0,F⟩) n n else U)):=⟨_,R rfl⟩
 obtain⟨ec,bY⟩:∃b:ae,Hid (b=(bif (l && g) then ad (D ⟨w.heap.size+1,1,F⟩) else U)):=⟨_,R rfl⟩;obtain⟨ed,bZ⟩:∃b:ae,Hid (b=(bif (l && g) then B o (N:Int) else U)):=⟨_,R rfl⟩;obtain⟨ef,b3⟩:∃b:ae,Hid (b=(bif (l && g) then ad (D ⟨q.aF,N,F⟩) else U)):=⟨_,R rfl⟩;obtain⟨eg,b4⟩:∃b:ae,Hid (b=(bif (l && g) then B o a4 else U)):=⟨_,R rfl⟩;obtain⟨eh,b5⟩:∃b:ae,Hid (b=(bif (l && g) then aa ak else U)):=⟨_,R rfl⟩;obtain⟨ei,b6⟩:∃b:ae,Hid (b=(bif (l && g) then aa a5 else U)):=⟨_,R rfl⟩;obtain⟨ej,b7⟩:∃b:ae,Hid (b= aa ((l && g) && a5)):=⟨_,R rfl⟩;obtain⟨ek,b8⟩:∃b:ae,Hid (b= aa ((l && g) && a5)):=⟨_,R rfl⟩
 refine bW (fin:= ?z14) [ad (D ⟨q.ar,0,F⟩), aq #[B o (i:Int), B o (j:Int)], aa l, aa l,ee,el,em,en,eo,ep,dF,dG,dH,dI,dJ,dK,dL,dM,dN,dO,dP,dQ,dS,dT,dU,dV,dW,dX,dZ,d2,d3,d4,d5,d6,d8,d9,ea,eb,ec,ed,ef,eg,eh,ei,ej,ek] ?hf bp (by kernel_rfl) rfl fun E hst=> ?_;case hf=>simp only[aT,a6,bd,ba,bc];exact rfl
 have y:=R hst;have z:=hst;obtain⟨a1,c1,d0,d1,ag,S,ab,T,ac⟩:=jV z a1 c1 d0 d1 ag S ab T ac;constructor
 ·iterate 46 refine⟨?_,fun K a=> ?_⟩
  ·trivial
  ·obtain rfl:=b8.out
   obtain rfl:=b7.out;generalize ((l && g) && a5)=y0 at a |-;cases y0 <;> (go_simp;exact a _ y.out)
  ·obtain rfl:=b7.out
   obtain rfl:=I.out;obtain rfl:=b6.out;generalize (l && g)=y0 at a |-;cases y0 <;> cases a5 <;> (go_simp;exact a _ y.out)
  ·have fc:=dy.out
   subst fc;obtain rfl:=b6.out;obtain rfl:=I.out;obtain rfl:=bI.out;obtain rfl:=b5.out;generalize (l && g)=y0 at a |-;cases y0 <;> cases ap <;> cases ak <;> (go_simp;exact a _ y.out)
  ·have fp:au (aZ < a4)=ak:=dx.out.symm
   obtain rfl:=b5.out;obtain rfl:=I.out;obtain rfl:=bQ.out;obtain rfl:=b4.out;generalize (l && g)=y0 at a |-;cases y0 <;> (go_simp;exact a _ y.out)
  ·obtain rfl:=b4.out
   obtain rfl:=I.out;obtain rfl:=b3.out;generalize (l && g)=y0 at a |-;cases y0 <;> (go_simp;exact a _ y.out)
  ·obtain rfl:=b3.out
   obtain rfl:=I.out;obtain rfl:=bU.out;obtain rfl:=bZ.out;generalize (l && g)=y0 at a |-;cases y0 <;> (go_simp;exact a _ y.out)
  ·obtain rfl:=bZ.out
   obtain rfl:=I.out;obtain rfl:=bY.out;generalize (l && g)=y0 at a |-;cases y0 <;> (go_simp;exact a _ y.out)
  ·obtain rfl:=bY.out
   obtain rfl:=I.out;generalize (l && g)=y0 at a |-;cases y0 <;> (go_simp;exact a _ y.out)
  ·obtain rfl:=bU.out
   obtain rfl:=I.out;obtain rfl:=bT.out;generalize (l && g)=y0 at a |-;cases y0 <;> (go_simp;exact a _ y.out)
  ·obtain rfl:=bT.out
   obtain rfl:=I.out;obtain rfl:=bS.out;generalize (l && g)=y0 at a |-;cases y0 <;> (go_simp;exact a _ y.out)
  ·obtain rfl:=bS.out
   obtain rfl:=I.out;obtain rfl:=bR.out;generalize (l && g)=y0 at a |-;cases y0 <;> (go_simp;exact a _ y.out)
  ·obtain rfl:=bR.out
   obtain rfl:=I.out;generalize (l && g)=y0 at a |-;cases y0 <;> (go_simp;exact a _ y.out)
  ·obtain rfl:=bQ.out
   obtain rfl:=I.out;obtain rfl:=bP.out;generalize (l && g)=y0 at a |-;cases y0 <;> (go_simp;exact a _ y.out)
  ·obtain rfl:=bP.out
   obtain rfl:=I.out;obtain rfl:=bM.out;obtain rfl:=bO.out;generalize (l && g)=y0 at a |-;cases y0 <;> (go_simp;exact a _ y.out)
  ·obtain rfl:=bO.out
   obtain rfl:=I.out;obtain rfl:=bN.out;generalize (l && g)=y0 at a |-;cases y0 <;> (go_simp;exact a _ y.out)
  ·obtain rfl:=bN.out
   obtain rfl:=I.out;generalize (l && g)=y0 at a |-;cases y0 <;> (go_simp;exact a _ y.out)
  ·obtain rfl:=bM.out
   obtain rfl:=I.out;obtain rfl:=bL.out;generalize (l && g)=y0 at a |-;cases y0 <;> (go_simp;exact a _ y.out)
  ·obtain rfl:=bL.out
   obtain rfl:=I.out;obtain rfl:=bK.out;generalize (l && g)=y0 at a |-;cases y0 <;> (go_simp;exact a _ y.out)
  ·obtain rfl:=bK.out
   obtain rfl:=I.out;obtain rfl:=bJ.out;generalize (l && g)=y0 at a |-;cases y0 <;> (go_simp;exact a _ y.out)
  ·obtain rfl:=bJ.out
   obtain rfl:=I.out;generalize (l && g)=y0 at a |-;cases y0 <;> (go_simp;exact a _ y.out)
  ·have fo:au (aS < a3)=ap:=dw.out.symm
   obtain rfl:=bI.out;obtain rfl:=I.out;obtain rfl:=bz.out;obtain rfl:=bH.out;generalize (l && g)=y0 at a |-;cases y0 <;> (go_simp;exact a _ y.out)
  ·obtain rfl:=bH.out
   obtain rfl:=I.out;obtain rfl:=bG.out;generalize (l && g)=y0 at a |-;cases y0 <;> (go_simp;exact a _ y.out)
  ·obtain rfl:=bG.out
   obtain rfl:=I.out;obtain rfl:=bD.out;obtain rfl:=bF.out;generalize (l && g)=y0 at a |-;cases y0 <;> (go_simp;exact a _ y.out)
  ·obtain rfl:=bF.out
   obtain rfl:=I.out;obtain rfl:=bE.out;generalize (l && g)=y0 at a |-;cases y0 <;> (go_simp;exact a _ y.out)
  ·obtain rfl:=bE.out
   obtain rfl:=I.out;generalize (l && g)=y0 at a |-;cases y0 <;> (go_simp;exact a _ y.out)
  ·obtain rfl:=bD.out
   obtain rfl:=I.out;obtain rfl:=bC.out;generalize (l && g)=y0 at a |-;cases y0 <;> (go_simp;exact a _ y.out)
  ·obtain rfl:=bC.out
   obtain rfl:=I.out;obtain rfl:=bB.out;generalize (l && g)=y0 at a |-;cases y0 <;> (go_simp;exact a _ y.out)
  ·obtain rfl:=bB.out
   obtain rfl:=I.out;obtain rfl:=bA.out;generalize (l && g)=y0 at a |-;cases y0 <;> (go_simp;exact a _ y.out)
  ·obtain rfl:=bA.out
   obtain rfl:=I.out;generalize (l && g)=y0 at a |-;cases y0 <;> (go_simp;exact a _ y.out)
  ·obtain rfl:=bz.out
   obtain rfl:=I.out;obtain rfl:=bx.out;generalize (l && g)=y0 at a |-;cases y0 <;> (go_simp;exact a _ y.out)
  ·obtain rfl:=bx.out
   obtain rfl:=I.out;obtain rfl:=bt.out;obtain rfl:=bv.out;generalize (l && g)=y0 at a |-;cases y0 <;> (go_simp;exact a _ y.out)
  ·obtain rfl:=bv.out
   obtain rfl:=I.out;obtain rfl:=bu.out;generalize (l && g)=y0 at a |-;cases y0 <;> (go_simp;exact a _ y.out)
  ·obtain rfl:=bu.out
   obtain rfl:=I.out;generalize (l && g)=y0 at a |-;cases y0 <;> (go_simp;exact a _ y.out)
  ·obtain rfl:=bt.out
   obtain rfl:=I.out;obtain rfl:=bs.out;generalize (l && g)=y0 at a |-;cases y0 <;> (go_simp;exact a _ y.out)
  ·obtain rfl:=bs.out
   obtain rfl:=I.out;obtain rfl:=br.out;generalize (l && g)=y0 at a |-;cases y0 <;> (go_simp;exact a _ y.out)
  ·obtain rfl:=br.out
   obtain rfl:=I.out;obtain rfl:=ce.out;generalize (l && g)=y0 at a |-;cases y0 <;> (go_simp;exact a _ y.out)
  ·obtain rfl:=ce.out
   obtain rfl:=I.out;generalize (l && g)=y0 at a |-;cases y0 <;> (go_simp;exact a _ y.out)
  ·obtain rfl:=I.out
   obtain rfl:=cb.out;generalize (l && g)=y0 at a |-;cases y0 <;> (go_simp;exact a _ y.out)
  ·obtain rfl:=cb.out
   obtain rfl:=ca.out;cases l <;> cases g <;> (go_simp;exact a _ y.out)
  ·obtain rfl:=ca.out
   obtain rfl:=b2.out;obtain rfl:=b9.out;cases l <;> first | (go_simp;exact a _ y.out;done) | (go_simp;exact aw (aD.out E z) fun wc s=>a _ (ax z s))
  ·obtain rfl:=b9.out
   cases l <;> (go_simp;exact a _ y.out)
  ·obtain rfl:=b2.out
   cases l <;> (go_simp;exact a _ y.out)
  ·cases l <;> (go_simp;exact a _ y.out)
  ·go_simp;exact aw (aI.out E z) fun wc s=>a _ (ax z s)
  iterate 2 (go_simp;exact a _ y.out)
 obtain rfl:=b8.out;clear b2 b9 ca cb I ce br bs bt bu bv bx bz bA bB bC bD bE bF bG bH bI bJ bK bL bM bN bO bP bQ bR bS bT bU bY bZ b3 b4 b5 b6 b7 b8;generalize dc:((l && g) && a5)=B1;have bk:=R dc;clear dc;cases B1
 rotate_left
 ·have P:a2=1:=by rw[bl.out,bk.out];rfl
  obtain⟨az,aB⟩:=aY P (ax aL.out z);clear P z;go_wp2;go_ret;exact⟨ez az.out.symm,aB.out⟩
 go_upto_region 3 with fail
 have du:=R z;obtain⟨ew,cl⟩:∃b:ae,Hid (b=(bif c then ad (D ⟨q.ar,0,F⟩) else U)):=⟨_,R rfl⟩;obtain⟨ex,cn⟩:∃b:ae,Hid (b=(bif c then aq #[B o (A:Int), B o (N:Int)] else U)):=⟨_,R rfl⟩;obtain⟨ey,co⟩:∃b:ae,Hid (b=(bif c then aa g else U)):=⟨_,R rfl⟩;obtain⟨eA,cq⟩:∃b:ae,Hid (b= aa (c && g)):=⟨_,R rfl⟩;obtain⟨eB,aJ⟩:∃b:ae,Hid (b= aa (c && g)):=⟨_,R rfl⟩;obtain⟨eC,cr⟩:∃b:ae,Hid (b=(bif (c && g) then ad (D ⟨q.ar,0,F⟩) else U)):=⟨_,R rfl⟩;obtain⟨eq,cf⟩:∃b:ae,Hid (b=(bif (c && g) then ad (D ⟨w.heap.size+1,0,F⟩) else U)):=⟨_,R rfl⟩
 obtain⟨er,cg⟩:∃b:ae,Hid (b=(bif (c && g) then B o (A:Int) else U)):=⟨_,R rfl⟩;obtain⟨es,ch⟩:∃b:ae,Hid (b=(bif (c && g) then aq #[B o (i:Int), B o (j:Int)] else U)):=⟨_,R rfl⟩;obtain⟨et,ci⟩:∃b:ae,Hid (b=(bif (c && g) then aa aH else U)):=⟨_,R rfl⟩;obtain⟨eu,cj⟩:∃b:ae,Hid (b= aa ((c && g) && aH)):=⟨_,R rfl⟩;obtain⟨ev,ck⟩:∃b:ae,Hid (b= aa ((c && g) && aH)):=⟨_,R rfl⟩;refine vp (fin:= ?z16) [ad (D ⟨q.ar,0,F⟩), aq #[B o (i:Int), B o (j:Int)], aa c, aa c,ew,ex,ey,eA,eB,eC,eq,er,es,et,eu,ev] (fun E=>E.cell? ⟨w.heap.size,0,F⟩=D (B o (i:Int))/\E.cell? ⟨w.heap.size,1,F⟩=D (B o (j:Int))/\E.cell? ⟨w.heap.size+1,0,F⟩=D (B o (A:Int))/\E.cell? ⟨w.heap.size+1,1,F⟩=D (B o (N:Int))/\E.cell? ⟨q.ar,3,F⟩=D (O (D ⟨q.aF,0,F⟩) n n)/\E.cell? ⟨q.aF,i,F⟩=D (B o aS)/\E.cell? ⟨q.aF,A,F⟩=D (B o a3)/\E.cell? ⟨q.aF,j,F⟩=D (B o aZ)/\E.cell? ⟨q.aF,N,F⟩=D (B o a4)/\Below w1.heap.size w1 E) ?hf (by kernel_rfl) rfl ⟨a1,c1,d0,d1,ag,S,ab,T,ac,du.out⟩ fun E hst=> ?_
 case hf=>simp only[aT,a6,bd,ba,bc];exact rfl
 have y:=R hst;obtain⟨a1,c1,d0,d1,ag,S,ab,T,ac,z⟩:=hst;constructor
 ·iterate 16 refine⟨?_,fun K a=> ?_⟩
  ·trivial
  ·obtain rfl:=ck.out
   obtain rfl:=cj.out;generalize ((c && g) && aH)=y0 at a |-;cases y0 <;> (go_simp;exact a _ y.out)
  ·obtain rfl:=cj.out
   obtain rfl:=aJ.out;obtain rfl:=ci.out;generalize (c && g)=y0 at a |-;cases y0 <;> cases aH <;> (go_simp;exact a _ y.out)
  ·obtain rfl:=ci.out
   obtain rfl:=aJ.out;obtain rfl:=cr.out;obtain rfl:=cg.out;obtain rfl:=ch.out;generalize (c && g)=y0 at a |-;cases y0 <;> first | (go_simp;exact a _ y.out;done) | (go_simp;exact aw (bm.out E z) fun wc s=>a _ ⟨V a1 s,V c1 s,V d0 s,V d1 s,V ag s,V S s,V ab s,V T s,V ac s,ax z s⟩)
  ·obtain rfl:=ch.out
   obtain rfl:=aJ.out;generalize (c && g)=y0 at a |-;cases y0 <;> (go_simp;exact a _ y.out)
  ·obtain rfl:=cg.out
   obtain rfl:=aJ.out;obtain rfl:=cf.out;generalize (c && g)=y0 at a |-;cases y0 <;> (go_simp;exact a _ y.out)
  ·obtain rfl:=cf.out
   obtain rfl:=aJ.out;generalize (c && g)=y0 at a |-;cases y0 <;> (go_simp;exact a _ y.out)
  ·obtain rfl:=cr.out
   obtain rfl:=aJ.out;generalize (c && g)=y0 at a |-;cases y0 <;> (go_simp;exact a _ y.out)
  ·obtain rfl:=aJ.out
   obtain rfl:=cq.out;generalize (c && g)=y0 at a |-;cases y0 <;> (go_simp;exact a _ y.out)
  ·obtain rfl:=cq.out
   obtain rfl:=co.out;cases c <;> cases g <;> (go_simp;exact a _ y.out)
  ·obtain rfl:=co.out
   obtain rfl:=cl.out;obtain rfl:=cn.out;cases c <;> first | (go_simp;exact a _ y.out;done) | (go_simp;exact aw (aD.out E z) fun wc s=>a _ ⟨V a1 s,V c1 s,V d0 s,V d1 s,V ag s,V S s,V ab s,V T s,V ac s,ax z s⟩)
  ·obtain rfl:=cn.out
   cases c <;> (go_simp;exact a _ y.out)
  ·obtain rfl:=cl.out
   cases c <;> (go_simp;exact a _ y.out)
  ·cases c <;> (go_simp;exact a _ y.out)
  ·go_simp;exact aw (av.out E z) fun wc s=>a _ ⟨V a1 s,V c1 s,V d0 s,V d1 s,V ag s,V S s,V ab s,V T s,V ac s,ax z s⟩
  iterate 2 (go_simp;exact a _ y.out)
 obtain rfl:=ck.out;clear cl cn co cq aJ cr cf cg ch ci cj ck;generalize dd:((c && g) && aH)=B2;have cX:=R dd;clear dd;cases B2
 rotate_left
 ·have P:a2=2:=by rw[bl.out,bk.out,cX.out];rfl
  obtain⟨az,aB⟩:=aY P (ax aL.out z);clear P z;go_wp2;go_ret;exact⟨ez az.out.symm,aB.out⟩
 have dv:=R z
 go_wp2_with fail
 obtain⟨eW,cL⟩:∃b:ae,Hid (b=(bif c then ad (D ⟨q.ar,0,F⟩) else U)):=⟨_,R rfl⟩;obtain⟨eX,cM⟩:∃b:ae,Hid (b=(bif c then aq #[B o (A:Int), B o (N:Int)] else U)):=⟨_,R rfl⟩;obtain⟨eY,cN⟩:∃b:ae,Hid (b=(bif c then aa G else U)):=⟨_,R rfl⟩;obtain⟨eZ,cO⟩:∃b:ae,Hid (b= aa (c && G)):=⟨_,R rfl⟩;obtain⟨e0,aK⟩:∃b:ae,Hid (b= aa (c && G)):=⟨_,R rfl⟩;obtain⟨e1,cP⟩:∃b:ae,Hid (b=(bif (c && G) then ad (D ⟨w.heap.size+1,0,F⟩) else U)):=⟨_,R rfl⟩;obtain⟨eD,ct⟩:∃b:ae,Hid (b=(bif (c && G) then B o (A:Int) else U)):=⟨_,R rfl⟩;obtain⟨eE,cu⟩:∃b:ae,Hid (b=(bif (c && G) then ad (D ⟨w.heap.size,1,F⟩) else U)):=⟨_,R rfl⟩
 obtain⟨eF,cv⟩:∃b:ae,Hid (b=(bif (c && G) then B o (j:Int) else U)):=⟨_,R rfl⟩;obtain⟨eG,cw⟩:∃b:ae,Hid (b=(bif (c && G) then aa nq else U)):=⟨_,R rfl⟩;obtain⟨eH,cx⟩:∃b:ae,Hid (b= aa ((c && G) && nq)):=⟨_,R rfl⟩;obtain⟨eI,am⟩:∃b:ae,Hid (b= aa ((c && G) && nq)):=⟨_,R rfl⟩;obtain⟨eJ,cy⟩:∃b:ae,Hid (b=(bif ((c && G) && nq) then ad (D ⟨q.ar,0,F⟩) else U)):=⟨_,R rfl⟩;obtain⟨eK,cz⟩:∃b:ae,Hid (b=(bif ((c && G) && nq) then ad (D ⟨w.heap.size+1,0,F⟩) else U)):=⟨_,R rfl⟩;obtain⟨eL,cA⟩:∃b:ae,Hid (b=(bif ((c && G) && nq) then B o (A:Int) else U)):=⟨_,R rfl⟩
 obtain⟨eM,cB⟩:∃b:ae,Hid (b=(bif ((c && G) && nq) then aq #[B o (i:Int), B o (j:Int)] else U)):=⟨_,R rfl⟩;obtain⟨eN,cC⟩:∃b:ae,Hid (b=(bif ((c && G) && nq) then aa aH else U)):=⟨_,R rfl⟩;obtain⟨eO,cD⟩:∃b:ae,Hid (b=(bif ((c && G) && nq) then ad (D ⟨q.ar,0,F⟩) else U)):=⟨_,R rfl⟩;obtain⟨eP,cE⟩:∃b:ae,Hid (b=(bif ((c && G) && nq) then ad (D ⟨w.heap.size+1,1,F⟩) else U)):=⟨_,R rfl⟩;obtain⟨eQ,cF⟩:∃b:ae,Hid (b=(bif ((c && G) && nq) then B o (N:Int) else U)):=⟨_,R rfl⟩;obtain⟨eR,cG⟩:∃b:ae,Hid (b=(bif ((c && G) && nq) then aq #[B o (i:Int), B o (j:Int)] else U)):=⟨_,R rfl⟩
 obtain⟨eS,cH⟩:∃b:ae,Hid (b=(bif ((c && G) && nq) then aa z2 else U)):=⟨_,R rfl⟩;obtain⟨eT,cI⟩:∃b:ae,Hid (b=(bif ((c && G) && nq) then aa a9 else U)):=⟨_,R rfl⟩;obtain⟨eU,cJ⟩:∃b:ae,Hid (b= aa (((c && G) && nq) && a9)):=⟨_,R rfl⟩;obtain⟨eV,cK⟩:∃b:ae,Hid (b= aa (((c && G) && nq) && a9)):=⟨_,R rfl⟩;refine dR (fin:= ?z18) [ad (D ⟨q.ar,0,F⟩), aq #[B o (i:Int), B o (j:Int)], aa c, aa c,eW,eX,eY,eZ,e0,e1,eD,eE,eF,eG,eH,eI,eJ,eK,eL,eM,eN,eO,eP,eQ,eR,eS,eT,eU,eV] (fun E=>E.cell? ⟨w.heap.size,0,F⟩=D (B o (i:Int))/\E.cell? ⟨w.heap.size,1,F⟩=D (B o (j:Int))/\E.cell? ⟨w.heap.size+1,0,F⟩=D (B o (A:Int))/\E.cell? ⟨w.heap.size+1,1,F⟩=D (B o (N:Int))/\E.cell? ⟨q.ar,3,F⟩=D (O (D ⟨q.aF,0,F⟩) n n)/\E.cell? ⟨q.aF,i,F⟩=D (B o aS)/\E.cell? ⟨q.aF,A,F⟩=D (B o a3)/\E.cell? ⟨q.aF,j,F⟩=D (B o aZ)/\E.cell? ⟨q.aF,N,F⟩=D (B o a4)/\Below w1.heap.size w1 E) ?hf bp (by kernel_rfl) rfl ⟨a1,c1,d0,d1,ag,S,ab,T,ac,dv.out.drew⟩ fun E hst=> ?_
 case hf=>simp only[aT,a6,bd,ba,bc];exact rfl
 have J:=R hst;obtain⟨a1,c1,d0,d1,ag,S,ab,T,ac,z⟩:=hst;constructor
 ·iterate 29 refine⟨?_,fun K a=> ?_⟩
  ·trivial
  ·obtain rfl:=cK.out
   obtain rfl:=cJ.out;generalize (((c && G) && nq) && a9)=y0 at a |-;cases y0 <;> (go_simp;exact a _ J.out)
  ·obtain rfl:=cJ.out
   obtain rfl:=am.out;obtain rfl:=cI.out;generalize ((c && G) && nq)=y0 at a |-;cases y0 <;> cases a9 <;> (go_simp;exact a _ J.out)
  ·have fd:=dB.out
   subst fd;obtain rfl:=cI.out;obtain rfl:=am.out;obtain rfl:=cC.out;obtain rfl:=cH.out;generalize ((c && G) && nq)=y0 at a |-;cases y0 <;> cases aH <;> cases z2 <;> (go_simp;exact a _ J.out)
  ·obtain rfl:=cH.out
   obtain rfl:=am.out;obtain rfl:=cD.out;obtain rfl:=cF.out;obtain rfl:=cG.out;generalize ((c && G) && nq)=y0 at a |-;cases y0 <;> first | (go_simp;exact a _ J.out;done) | (go_simp;exact aw (da.out E z) fun wc s=>a _ ⟨V a1 s,V c1 s,V d0 s,V d1 s,V ag s,V S s,V ab s,V T s,V ac s,ax z s⟩)
  ·obtain rfl:=cG.out
   obtain rfl:=am.out;generalize ((c && G) && nq)=y0 at a |-;cases y0 <;> (go_simp;exact a _ J.out)
  ·obtain rfl:=cF.out
   obtain rfl:=am.out;obtain rfl:=cE.out;generalize ((c && G) && nq)=y0 at a |-;cases y0 <;> (go_simp;exact a _ J.out)
  ·obtain rfl:=cE.out
   obtain rfl:=am.out;generalize ((c && G) && nq)=y0 at a |-;cases y0 <;> (go_simp;exact a _ J.out)
  ·obtain rfl:=cD.out
   obtain rfl:=am.out;generalize ((c && G) && nq)=y0 at a |-;cases y0 <;> (go_simp;exact a _ J.out)
  ·obtain rfl:=cC.out
   obtain rfl:=am.out;obtain rfl:=cy.out;obtain rfl:=cA.out;obtain rfl:=cB.out;generalize ((c && G) && nq)=y0 at a |-;cases y0 <;> first | (go_simp;exact a _ J.out;done) | (go_simp;exact aw (bm.out E z) fun wc s=>a _ ⟨V a1 s,V c1 s,V d0 s,V d1 s,V ag s,V S s,V ab s,V T s,V ac s,ax z s⟩)
  ·obtain rfl:=cB.out
   obtain rfl:=am.out;generalize ((c && G) && nq)=y0 at a |-;cases y0 <;> (go_simp;exact a _ J.out)
  ·obtain rfl:=cA.out
   obtain rfl:=am.out;obtain rfl:=cz.out;generalize ((c && G) && nq)=y0 at a |-;cases y0 <;> (go_simp;exact a _ J.out)
  ·obtain rfl:=cz.out
   obtain rfl:=am.out;generalize ((c && G) && nq)=y0 at a |-;cases y0 <;> (go_simp;exact a _ J.out)
  ·obtain rfl:=cy.out
   obtain rfl:=am.out;generalize ((c && G) && nq)=y0 at a |-;cases y0 <;> (go_simp;exact a _ J.out)
  ·obtain rfl:=am.out
   obtain rfl:=cx.out;generalize ((c && G) && nq)=y0 at a |-;cases y0 <;> (go_simp;exact a _ J.out)
  ·obtain rfl:=cx.out
   obtain rfl:=aK.out;obtain rfl:=cw.out;generalize (c && G)=y0 at a |-;cases y0 <;> cases nq <;> (go_simp;exact a _ J.out)
  ·have fq:((A:Int) !=(j:Int))=nq:=by rw[dz.out];rfl
   obtain rfl:=cw.out;obtain rfl:=aK.out;obtain rfl:=ct.out;obtain rfl:=cv.out;generalize (c && G)=y0 at a |-;cases y0 <;> (go_simp;exact a _ J.out)
  ·obtain rfl:=cv.out
   obtain rfl:=aK.out;obtain rfl:=cu.out;generalize (c && G)=y0 at a |-;cases y0 <;> (go_simp;exact a _ J.out)
  ·obtain rfl:=cu.out
   obtain rfl:=aK.out;generalize (c && G)=y0 at a |-;cases y0 <;> (go_simp;exact a _ J.out)
  ·obtain rfl:=ct.out
   obtain rfl:=aK.out;obtain rfl:=cP.out;generalize (c && G)=y0 at a |-;cases y0 <;> (go_simp;exact a _ J.out)
  ·obtain rfl:=cP.out
   obtain rfl:=aK.out;generalize (c && G)=y0 at a |-;cases y0 <;> (go_simp;exact a _ J.out)
  ·obtain rfl:=aK.out
   obtain rfl:=cO.out;generalize (c && G)=y0 at a |-;cases y0 <;> (go_simp;exact a _ J.out)
  ·obtain rfl:=cO.out
   obtain rfl:=cN.out;cases c <;> cases G <;> (go_simp;exact a _ J.out)
  ·obtain rfl:=cN.out
   obtain rfl:=cL.out;obtain rfl:=cM.out;cases c <;> first | (go_simp;exact a _ J.out;done) | (go_simp;exact aw (aQ.out E z) fun wc s=>a _ ⟨V a1 s,V c1 s,V d0 s,V d1 s,V ag s,V S s,V ab s,V T s,V ac s,ax z s⟩)
  ·obtain rfl:=cM.out
   cases c <;> (go_simp;exact a _ J.out)
  ·obtain rfl:=cL.out
   cases c <;> (go_simp;exact a _ J.out)
  ·cases c <;> (go_simp;exact a _ J.out)
  ·go_simp;exact aw (av.out E z) fun wc s=>a _ ⟨V a1 s,V c1 s,V d0 s,V d1 s,V ag s,V S s,V ab s,V T s,V ac s,ax z s⟩
  iterate 2 (go_simp;exact a _ J.out)
 obtain rfl:=cK.out;clear cL cM cN cO aK cP ct cu cv cw cx am cy cz cA cB cC cD cE cF cG cH cI cJ cK;generalize de:(((c && G) && nq) && a9)=B3;obtain⟨db,aB⟩:=aY de (ax aL.out z);clear de z;cases B3
 ·have P:a2=0:=by rw[bl.out,bk.out,cX.out,db.out];rfl
  have az:=R P;clear P;go_wp2;go_ret;exact⟨ez az.out.symm,aB.out⟩
 have P:a2=3:=by rw[bl.out,bk.out,cX.out,db.out];rfl
 have az:=R P;clear P;go_wp2;go_ret;exact⟨ez az.out.symm,aB.out⟩
end
end Go.Proofs.YteaeipgfjmnecaaGreatDoor

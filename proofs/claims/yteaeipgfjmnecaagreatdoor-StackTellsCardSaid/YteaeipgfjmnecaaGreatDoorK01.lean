/- Lemmas; each says its own conditions. -/
import Derived.Test.YteaeipgfjmnecaaGreatDoorChecked
import Derived.WalkKit
import Derived.WalkLawsBesides
import Derived.WalkSpells
import Derived.Below
import Derived.Laws.OwnMore
import Derived.Deep.Draws
import Derived.Deep.QuietTactic
import Derived.BigQuiet
import Derived.Lib.Hide
import Derived.Maps.AppendAt
import Derived.RegionTactic
import Derived.Deep.RegionLaw
import Derived.Laws.BitsLemmas
import Derived.Deep.RegionHeld3
import Derived.Deep.RegionWith
open BitVec renaming ofInt->j0
open Bool renaming false->Q,true->S
open Decidable renaming decide->au
open Go renaming Addr->cF,Calls->bB,TypeId->dK,Value->ae,World->ac,bodyPost_ret->cT,heap_alloc_new->aQ
open Go.IntKind renaming i64->b7
open Go.World renaming block_lt_of_cell?->iS,cell?->mw,size_alloc->em
open Go.IntKind renaming i64->o
open List renaming getElem?_cons_succ->cO,getElem?_cons_zero->cU,getElem?_toArray->cP
open Nat renaming and_two_pow_sub_one_eq_mod->wE,le_refl->nN
open Go.Obj renaming cells->Y
open Option renaming none->F,some->D
open Go.Proofs.Tryz renaming prog->aj
open Go.Value renaming agg->aq,bool->aa,int->B,pointer->ad,slice->O
namespace Go.Proofs.YteaeipgfjmnecaaGreatDoor
set_option linter.unusedSimpArgs false
set_option linter.unusedVariables false
set_option maxHeartbeats 12800000
section
open Go.RowKit
theorem ez{k:IntKind}{a b:Int}(h:a=b):Ending.returned (.int k a)= .returned (.int k b):=by rw[h]
theorem cW{a b:Bool}(h:a=b):Ending.returned (.bool a)= .returned (.bool b):=by rw[h]
theorem fW(b G i:Nat):(⟨b,G,none⟩:Addr).add i=⟨b,G+i,none⟩:=by
 unfold Addr.add;split;·subst_vars;rfl
 ·rfl
def Rd(w:World)(aL:Nat)(A:Option Addr)(n:Nat)(r:List Value):Prop:=
 r.length=n*aL/\(0 < n->∃b G,A=some ⟨b,G,none⟩/\b < w.heap.size/\∀j u,r[j]? =some u->w.cell? ⟨b,G+j,none⟩=some u)
section
variable {w Z:World} {aL n:Nat} {A:Option Addr} {r:List Value}
theorem Rd.nil:Rd w aL A 0 []:=⟨by simp,fun h=>absurd h (by omega)⟩
theorem Rd.len(h:Rd w aL A n r):r.length=n*aL:=h.1
theorem Rd.at_(h:Rd w aL A n r)(hn:0 < n):∃b G,A=some ⟨b,G,none⟩/\b < w.heap.size/\∀j u,r[j]? =some u->w.cell? ⟨b,G+j,none⟩=some u:=h.2 hn
theorem Rd.fX(h:Rd w aL A n r){ah:Nat}(L:Below ah w Z)(aK:w.heap.size<=ah):Rd Z aL A n r:=
 ⟨h.1,fun hn=>by
  obtain⟨b,G,e,U,hc⟩:=h.2 hn;exact⟨b,G,e,Nat.lt_of_lt_of_le U L.size,fun j u M=>(L.cell (p:=⟨b,G+j,none⟩) (Nat.lt_of_lt_of_le U aK)).trans (hc j u M)⟩⟩
theorem Rd.below(h:Rd w aL A n r)(L:Below w.heap.size w Z):Rd Z aL A n r:=h.fX L (Nat.le_refl _)
theorem Rd.alloc(h:Rd w aL A n r)(af:Obj):Rd (w.alloc af) aL A n r:=h.below ((Below.refl _ _).alloc (Nat.le_refl _) af)
theorem Rd.drew(h:Rd w aL A n r):Rd w.drew aL A n r:=h.below (Below.refl _ _).drew
theorem Rd.drewN(h:Rd w aL A n r)(k:Nat):Rd (w.drewN k) aL A n r:=h.below (below_drewN (Below.refl _ _) k)
theorem Rd.grown(h:Rd w aL A n r){row:Option Nat}(I:w.grownBy Z row)(aR:∀a,A=some a->some a.block≠row):Rd Z aL A n r:=
 ⟨h.1,fun hn=>by
  obtain⟨b,G,e,U,hc⟩:=h.2 hn;exact⟨b,G,e,Nat.lt_of_lt_of_le U I.size,fun j u M=>(World.cell?_of_block (I.block b U (aR _ e))).trans (hc j u M)⟩⟩
theorem Rd.dB{y:Nat}{e:TypeId}{c:Nat}(h:w.ownsRow y e aL (.slice A n c) n r):Rd w aL A n r:=by
 refine⟨h.1,fun hn=> ?_⟩;rcases h.2 with ⟨_,h0⟩ | ⟨g,ai,ak,aT,_,I,_⟩
 ·omega
 injection aT with hA _ _
 subst hA;refine⟨g,0,rfl,(Array.getElem?_eq_some_iff.1 I).1,fun j u M=> ?_⟩;have:=h.cells (g:=g) rfl j u M
 rwa [fW] at this
end
theorem dd{w:World}{y:Nat}{e:TypeId}{aL n:Nat}{v:Value}{r:List Value}(h:w.ownsRow y e aL v n r):
  ∃A c,v= .slice A n c/\n<=c/\c<=maxLen:=by
 rcases h.2 with ⟨rfl,rfl⟩ | ⟨g,ai,ak,rfl,_,_,h1,ab,_⟩
 ·exact⟨_,_,rfl,Nat.le_refl _,Nat.zero_le _⟩
 ·exact⟨_,_,rfl,h1,ab⟩
theorem nb{w Z:World}{ah y:Nat}{e:TypeId}{aL n:Nat}{v:Value}{r:List Value}(h:w.ownsRow y e aL v n r)(L:Below ah w Z)(aK:w.heap.size<=ah):
  Z.ownsRow y e aL v n r:=by
 refine⟨h.1, ?_⟩;rcases h.2 with h0 | ⟨g,ai,ak,rfl,h1,I,rest⟩
 ·exact .inl h0
 ·exact .inr ⟨g,ai,ak,rfl,h1,(L.block g (Nat.lt_of_lt_of_le (Array.getElem?_eq_some_iff.1 I).1 aK)).trans I,rest⟩
theorem dn{w:World}{y aH:Nat}{e:TypeId}{aL n:Nat}{v:Value}{r:List Value}(h:w.ownsRow y e aL v n r)(L:aH<=y):
  w.ownsRow aH e aL v n r:=by
 refine⟨h.1, ?_⟩;rcases h.2 with h0 | ⟨g,ai,ak,rfl,h1,rest⟩
 ·exact .inl h0
 ·exact .inr ⟨g,ai,ak,rfl,Nat.le_trans L h1,rest⟩
abbrev bF(l:List Int):List Value:=l.map (Value.int .i64)
theorem Rd.int{w:World}{A:Option Addr}{n:Nat}{R:List Int}(h:Rd w 1 A n (bF R)){k:Nat}(ar:k < n):
  ∃b G z,A=some ⟨b,G,none⟩/\b < w.heap.size/\R[k]? =some z/\w.cell? ⟨b,G+k,none⟩=some (.int .i64 z):=by
 obtain⟨b,G,e,L,hc⟩:=h.2 (by omega);have av:R.length=n:=by have:=h.1;simpa using this
 have aI:k < R.length:=by omega
 exact⟨b,G,R[k],e,L,List.getElem?_eq_getElem aI,hc k _ (by rw[List.getElem?_map,List.getElem?_eq_getElem aI];rfl)⟩
theorem Rd.k5{w:World}{A:Option Addr}{n:Nat}{R:List Int}(h:Rd w 1 A n (bF R)):R.length=n:=by have:=h.1;simpa using this
theorem mT:(Tryz.prog.info? 3).map (fun i=>(i.zero,i.size,i.bytes))=some (some (.int .i64 0),1,8):=by kernel_rfl
structure fm(w Z:World)(v a8:Value):Prop where
 grown:w.grownBy Z v.ownBlock
 at_:a8.ownBlock=v.ownBlock∨∃g,a8.ownBlock=some g/\w.heap.size<=g
def oQ(v:Value)(A:Option Addr):Prop:=∀a,A=some a->v.ownBlock≠some a.block
theorem Rd.lt{w:World}{aL n:Nat}{A:Option Addr}{r:List Value}(h:Rd w aL A n r)(hn:0 < n):∀a,A=some a->a.block < w.heap.size:=by
 intro a N;obtain⟨b,G,e,L,_⟩:=h.2 hn;subst e;injection N with N
 subst N;exact L
theorem Rd.grow{w Z:World}{v a8:Value}{aL n:Nat}{A:Option Addr}{r:List Value}(h:Rd w aL A n r)(I:fm w Z v a8)(V:oQ v A):Rd Z aL A n r:=
 h.grown I.grown (fun a N e=>V a N e.symm)
theorem oQ.grow{w Z:World}{v a8:Value}{A:Option Addr}(V:oQ v A)(U:∀a,A=some a->a.block < w.heap.size)(I:fm w Z v a8):oQ a8 A:=by
 intro a N e;rcases I.at_ with h | ⟨g,h,hge⟩
 ·exact V a N (h.symm.trans e)
 have:=U a N;have:some g=some a.block:=h.symm.trans e;injection this with this
 omega
theorem l7{w Z:World}{v a8:Value}{y aL n:Nat}{e:TypeId}{u:Value}{r:List Value}(h:w.ownsRow y e aL u n r)(I:fm w Z v a8)(aO:u.ownBlock=none∨u.ownBlock≠v.ownBlock):
  Z.ownsRow y e aL u n r:=h.kept I.grown aO
section
variable {w:World}
theorem i0{T E:TypeId}{z:Value}{aL bytes:Nat}(bi:Tryz.prog.underlying T=some (.slice E))(aw:(Tryz.prog.info? E).map (fun i=>(i.zero,i.size,i.bytes))=some (some z,aL,bytes))
  (aF:z.cells.size=aL) (hsz:0 < aL) (ax:bytes<=4096)
  {ops:Array Oper} {rest:List Oper} {af:Oper} {a:Act} {ao:Exit->Act->World->Prop} (ay:af.guard=none) (s x:Operand)
  (V:af.op= .call {callee:= .builtin .append,args:=#[s,x],argTypes:=#[T,T]})
  (y:Nat) (v:Value) (n:Nat) (r J:List Value) (aA:a.eval s=v) (an:w.ownsRow y E aL v n r) (ap:y<=w.heap.size)
  (m g:Nat) (I:g=w.heap.size) (aB:a.eval x= .slice (some ⟨g,0,none⟩) m m) (az:J.length=m*aL) (h1:∀u ∈ J,u.oneCell'=true) (hn:n+m<=2147483648)
  (h:∀a8 Z,Z.ownsRow y E aL a8 (n+m) (r++J)->Below y w Z->fm w Z v a8->wpList Tryz.prog ops ao rest (a.put af.dst a8) Z):
  wpList Tryz.prog ops ao (af::rest) a (w.alloc (.cells J.toArray E)):=by
 subst I;obtain⟨aG,al,aC,aD,aE⟩:=info_parts aw;have aN:(n+m)*bytes<=2147483648*4096:=Nat.mul_le_mul hn ax;refine wpList_append_own_at _ ay s x T V y E aG z aL bytes bi al aC aD aE aF hsz v n r aA (an.alloc _) ⟨w.heap.size,0,none⟩ m m J aB
  az ?_ h1 (by simp only[maxLen];omega) (by omega) (by simp;omega) ?_
 ·intro j u M
  rw[fW,World.cell?_alloc_at _ _ _ _ rfl];simpa using M
 intro a8 Z h1 ab _ ag;refine h a8 Z h1 (((Below.refl _ _).alloc ap _).grown ab (by simp;omega) (fun k ar=>((an.alloc (.cells J.toArray E)).lt k ar).1)) ⟨?_, ?_⟩;·exact(World.grownBy_alloc w _ _).trans ab
 rcases ag with ag | ag
 ·exact .inl ag
 ·exact .inr ⟨_,ag,by simp⟩
end
theorem nv{T E:TypeId}{z:Value}{aL bytes:Nat}(bi:Tryz.prog.underlying T=some (.slice E))(aw:(Tryz.prog.info? E).map (fun i=>(i.zero,i.size,i.bytes))=some (some z,aL,bytes))
  (aF:z.cells.size=aL) (hsz:0 < aL) (ax:bytes<=4096)
  {w:World} {ops:Array Oper} {af:Oper} {a:Act} {K:Act->World->Prop} {ao:Exit->Act->World->Prop} {aJ:Prop} (ay:af.guard=none) (s x:Operand)
  (V:af.op= .call {callee:= .builtin .append,args:=#[s,x],argTypes:=#[T,T]})
  (y:Nat) (v:Value) (n:Nat) (r J:List Value) (aA:a.eval s=v) (an:w.ownsRow y E aL v n r) (ap:y<=w.heap.size)
  (m g:Nat) (aB:a.eval x= .slice (some ⟨g,0,none⟩) m m) (aM:w.heap[g]? =some (.cells J.toArray E (0,0))) (az:J.length=m*aL) (h1:∀u ∈ J,u.oneCell'=true) (hn:n+m<=2147483648)
  (h:∀a8 Z,Z.ownsRow y E aL a8 (n+m) (r++J)->Below y w Z->fm w Z v a8->K (a.put af.dst a8) Z):
  if Region.wanted af (yielded ops a.tmps)=true then Oper.wp Tryz.prog af a w K ao else aJ:=by
 have aU:Region.wanted af (yielded ops a.tmps)=true:=by simp[Region.wanted,ay]
 rw[if_pos aU];obtain⟨aG,al,aC,aD,aE⟩:=info_parts aw;have aN:(n+m)*bytes<=2147483648*4096:=Nat.mul_le_mul hn ax;have aP:∀j u,J[j]? =some u->w.cell? ((⟨g,0,none⟩:Addr).add j)=some u:=by
  intro j u M;rw[fW,cell_of_row w g (0+j) _ _ (0,0) aM];simpa using M
 obtain⟨a8,Z,aS,ab,ag,_,am⟩:=run_append_own_at (P:=Tryz.prog) w y T af.type E aG z aL bytes bi al aC aD aE aF hsz v n r an ⟨g,0,none⟩ m m J az aP h1 (by simp only[maxLen];omega) (by omega) ap;unfold Oper.wp execOp;simp only[V,resolve,invoke,builtin,Sem.run_bind,Sem.run_pure,Result.andThen_ok,List.map_toArray,List.map_cons,List.map_nil,aA,aB,aS];refine h a8 Z ab ((Below.refl _ _).grown ag ap (fun k ar=>(an.lt k ar).1)) ⟨ag, ?_⟩;rcases am with am | am
 ·exact .inl am
 ·exact .inr ⟨_,am,Nat.le_refl _⟩
end
section
set_option maxRecDepth 100000
variable {a:cF}{cs:Array ae}{aS g:Nat}{af:Obj}{t:dK}{v:ae}{w Z:ac}
section
open Go.RowKit
theorem aB(h:w.heap[g]? =D (.cells cs t (0,0)))(i:Nat):w.cell? ⟨g,i,F⟩=cs[i]? :=cell_of_row w g i cs t (0,0) h
theorem br(h:w.heap[g]? =D (.cells cs t (0,0)))(i:Nat):w.frozen? ⟨g,i,F⟩=Q:=by simp[World.frozen?,h]
theorem am(h:w.heap[g]? =D af):g < w.heap.size:=(Array.getElem?_eq_some_iff.1 h).1
theorem bq(h:w.heap[g]? =D (.cells cs t (0,0)))(i:Nat)(u:ae):(w.setCell ⟨g,i,F⟩ u).heap[g]? =D (Y (cs.setIfInBounds i u) t (0,0)):=by
 simp[World.setCell,Array.getElem?_modify,h]
theorem eV(h:w.heap[g]? =D af){p:cF}(b2:g≠p.block)(u:ae):(w.setCell p u).heap[g]? =D af:=(Below.heap_setCell w p u g b2).trans h
theorem aW(h:w.heap[g]? =D af)(bX:Obj):(w.alloc bX).heap[g]? =D af:=(Below.heap_alloc w bX g (am h)).trans h
theorem aG(h:w.heap[g]? =D af)(aD:Below aS w Z)(bw:g < aS):Z.heap[g]? =D af:=(aD.block g bw).trans h
theorem jk(h:w.cell? a=D v)(aD:Below aS w Z)(aK:w.heap.size<=aS):Z.cell? a=D v:=
 (aD.cell (by have:=iS w _ h;omega)).trans h
theorem V(h:w.cell? a=D v)(aD:Below w.heap.size w Z):Z.cell? a=D v:=jk h aD (nN _)
theorem bo{bv:Nat}{e:dK}{aL n:Nat}{bK:List ae}(h:w.ownsRow bv e aL v n bK)(aD:Below w.heap.size w Z):Z.ownsRow bv e aL v n bK:=nb h aD (nN _)
theorem ai{b4:Sort _}(a:b4):∃x,x=a:=⟨_,rfl⟩
theorem bp:Tryz.prog.follows .mixedOrders=S:=by kernel_rfl
theorem ce{a:Nat}:a<=a:=nN a
theorem R{p:Prop}(h:p):Hid p:=h
theorem aw{P:Program}{f:FuncId}{a:Array ae}{w:ac}{E:Ending}{bf:ac->Prop}{be:Ending->ac->Prop}(h:bB P f a w fun e Z=>e=E/\bf Z)(k:∀Z,bf Z->be E Z):bB P f a w be:=h.mono fun e Z x=>by
 obtain⟨rfl,y⟩:=x;exact k Z y
theorem aX{aS:Nat}{w:ac}:Below aS w w:=Below.refl aS w
theorem d7{w:ac}{g:Nat}{t:dK}{f:Nat×Nat}{v0 v1:ae}{r:List ae}(h:w.heap[g]? =D (Y (v0::v1::r).toArray t f)):w.cell? ⟨g,0,F⟩=D v0/\w.cell? ⟨g,1,F⟩=D v1:=by
  refine⟨?_, ?_⟩ <;> (simp[mw,h])
theorem dl{w:ac}{g:Nat}{t:dK}{f:Nat×Nat}{v0 v1 v2:ae}{r:List ae}(h:w.heap[g]? =D (Y (v0::v1::v2::r).toArray t f)):w.cell? ⟨g,0,F⟩=D v0/\w.cell? ⟨g,1,F⟩=D v1/\w.cell? ⟨g,2,F⟩=D v2:=by
  refine⟨?_, ?_, ?_⟩ <;> (simp[mw,h])
theorem dm{w:ac}{g:Nat}{t:dK}{f:Nat×Nat}{v0 v1 v2 v3:ae}{r:List ae}(h:w.heap[g]? =D (Y (v0::v1::v2::v3::r).toArray t f)):w.cell? ⟨g,0,F⟩=D v0/\w.cell? ⟨g,1,F⟩=D v1/\w.cell? ⟨g,2,F⟩=D v2/\w.cell? ⟨g,3,F⟩=D v3:=by
  refine⟨?_, ?_, ?_, ?_⟩ <;> (simp[mw,h])
theorem mI{w:ac}{g:Nat}{t:dK}{f:Nat×Nat}{v0 v1 v2 v3 I:ae}{r:List ae}(h:w.heap[g]? =D (Y (v0::v1::v2::v3::I::r).toArray t f)):w.cell? ⟨g,0,F⟩=D v0/\w.cell? ⟨g,1,F⟩=D v1/\w.cell? ⟨g,2,F⟩=D v2/\w.cell? ⟨g,3,F⟩=D v3/\w.cell? ⟨g,4,F⟩=D I:=by
  refine⟨?_, ?_, ?_, ?_, ?_⟩ <;> (simp[mw,h])
theorem cx{w:ac}{g:Nat}{t:dK}{f:Nat×Nat}{v0 v1 v2 v3 I K:ae}{r:List ae}(h:w.heap[g]? =D (Y (v0::v1::v2::v3::I::K::r).toArray t f)):w.cell? ⟨g,0,F⟩=D v0/\w.cell? ⟨g,1,F⟩=D v1/\w.cell? ⟨g,2,F⟩=D v2/\w.cell? ⟨g,3,F⟩=D v3/\w.cell? ⟨g,4,F⟩=D I/\w.cell? ⟨g,5,F⟩=D K:=by
  refine⟨?_, ?_, ?_, ?_, ?_, ?_⟩ <;> (simp[mw,h])
theorem nX{w:ac}{g:Nat}{t:dK}{f:Nat×Nat}{v0 v1 v2 v3 I K N ah ak ap av aA:ae}{r:List ae}(h:w.heap[g]? =D (Y (v0::v1::v2::v3::I::K::N::ah::ak::ap::av::aA::r).toArray t f)):w.cell? ⟨g,0,F⟩=D v0/\w.cell? ⟨g,1,F⟩=D v1/\w.cell? ⟨g,2,F⟩=D v2/\w.cell? ⟨g,3,F⟩=D v3/\w.cell? ⟨g,4,F⟩=D I/\w.cell? ⟨g,5,F⟩=D K/\w.cell? ⟨g,6,F⟩=D N/\w.cell? ⟨g,7,F⟩=D ah/\w.cell? ⟨g,8,F⟩=D ak/\w.cell? ⟨g,9,F⟩=D ap/\w.cell? ⟨g,10,F⟩=D av/\w.cell? ⟨g,11,F⟩=D aA:=by
  refine⟨?_, ?_, ?_, ?_, ?_, ?_, ?_, ?_, ?_, ?_, ?_, ?_⟩ <;> (simp[mw,h])
theorem hw{w:ac}{g:Nat}{t:dK}{f:Nat×Nat}{v0 v1 v2 v3 I K N ah ak ap av aA aJ aM:ae}{r:List ae}(h:w.heap[g]? =D (Y (v0::v1::v2::v3::I::K::N::ah::ak::ap::av::aA::aJ::aM::r).toArray t f)):w.cell? ⟨g,0,F⟩=D v0/\w.cell? ⟨g,1,F⟩=D v1/\w.cell? ⟨g,2,F⟩=D v2/\w.cell? ⟨g,3,F⟩=D v3/\w.cell? ⟨g,4,F⟩=D I/\w.cell? ⟨g,5,F⟩=D K/\w.cell? ⟨g,6,F⟩=D N/\w.cell? ⟨g,7,F⟩=D ah/\w.cell? ⟨g,8,F⟩=D ak/\w.cell? ⟨g,9,F⟩=D ap/\w.cell? ⟨g,10,F⟩=D av/\w.cell? ⟨g,11,F⟩=D aA/\w.cell? ⟨g,12,F⟩=D aJ/\w.cell? ⟨g,13,F⟩=D aM:=by
  refine⟨?_, ?_, ?_, ?_, ?_, ?_, ?_, ?_, ?_, ?_, ?_, ?_, ?_, ?_⟩ <;> (simp[mw,h])
theorem lc{w l:ac}(b:Below w.heap.size w l){a0 ao a2:cF}{v0 v1 v2:ae}(h0:w.cell? a0=D v0)(h1:w.cell? ao=D v1)(ab:w.cell? a2=D v2):l.cell? a0=D v0/\l.cell? ao=D v1/\l.cell? a2=D v2:=⟨V h0 b,V h1 b,V ab b⟩
theorem fQ{w l:ac}(b:Below w.heap.size w l){a0 ao a2 s:cF}{v0 v1 v2 v3:ae}(h0:w.cell? a0=D v0)(h1:w.cell? ao=D v1)(ab:w.cell? a2=D v2)(ag:w.cell? s=D v3):l.cell? a0=D v0/\l.cell? ao=D v1/\l.cell? a2=D v2/\l.cell? s=D v3:=⟨V h0 b,V h1 b,V ab b,V ag b⟩
theorem mc{w l:ac}(b:Below w.heap.size w l){a0 ao a2 s z:cF}{v0 v1 v2 v3 I:ae}(h0:w.cell? a0=D v0)(h1:w.cell? ao=D v1)(ab:w.cell? a2=D v2)(ag:w.cell? s=D v3)(az:w.cell? z=D I):l.cell? a0=D v0/\l.cell? ao=D v1/\l.cell? a2=D v2/\l.cell? s=D v3/\l.cell? z=D I:=⟨V h0 b,V h1 b,V ab b,V ag b,V az b⟩
theorem jf{w l:ac}(b:Below w.heap.size w l){a0 ao a2 s z A:cF}{v0 v1 v2 v3 I K:ae}(h0:w.cell? a0=D v0)(h1:w.cell? ao=D v1)(ab:w.cell? a2=D v2)(ag:w.cell? s=D v3)(az:w.cell? z=D I)(M:w.cell? A=D K):l.cell? a0=D v0/\l.cell? ao=D v1/\l.cell? a2=D v2/\l.cell? s=D v3/\l.cell? z=D I/\l.cell? A=D K:=⟨V h0 b,V h1 b,V ab b,V ag b,V az b,V M b⟩
theorem kD{w l:ac}(b:Below w.heap.size w l){a0 ao a2 s z A G:cF}{v0 v1 v2 v3 I K N:ae}(h0:w.cell? a0=D v0)(h1:w.cell? ao=D v1)(ab:w.cell? a2=D v2)(ag:w.cell? s=D v3)(az:w.cell? z=D I)(M:w.cell? A=D K)(U:w.cell? G=D N):l.cell? a0=D v0/\l.cell? ao=D v1/\l.cell? a2=D v2/\l.cell? s=D v3/\l.cell? z=D I/\l.cell? A=D K/\l.cell? G=D N:=⟨V h0 b,V h1 b,V ab b,V ag b,V az b,V M b,V U b⟩
theorem md{w l:ac}(b:Below w.heap.size w l){a0 ao a2 s z A G J:cF}{v0 v1 v2 v3 I K N ah:ae}(h0:w.cell? a0=D v0)(h1:w.cell? ao=D v1)(ab:w.cell? a2=D v2)(ag:w.cell? s=D v3)(az:w.cell? z=D I)(M:w.cell? A=D K)(U:w.cell? G=D N)(al:w.cell? J=D ah):l.cell? a0=D v0/\l.cell? ao=D v1/\l.cell? a2=D v2/\l.cell? s=D v3/\l.cell? z=D I/\l.cell? A=D K/\l.cell? G=D N/\l.cell? J=D ah:=⟨V h0 b,V h1 b,V ab b,V ag b,V az b,V M b,V U b,V al b⟩
theorem jV{w l:ac}(b:Below w.heap.size w l){a0 ao a2 s z A G J L:cF}{v0 v1 v2 v3 I K N ah ak:ae}(h0:w.cell? a0=D v0)(h1:w.cell? ao=D v1)(ab:w.cell? a2=D v2)(ag:w.cell? s=D v3)(az:w.cell? z=D I)(M:w.cell? A=D K)(U:w.cell? G=D N)(al:w.cell? J=D ah)(bL:w.cell? L=D ak):l.cell? a0=D v0/\l.cell? ao=D v1/\l.cell? a2=D v2/\l.cell? s=D v3/\l.cell? z=D I/\l.cell? A=D K/\l.cell? G=D N/\l.cell? J=D ah/\l.cell? L=D ak:=⟨V h0 b,V h1 b,V ab b,V ag b,V az b,V M b,V U b,V al b,V bL b⟩
theorem la{w l:ac}(b:Below w.heap.size w l){a0 ao a2 s z A G J L T:cF}{v0 v1 v2 v3 I K N ah ak ap:ae}(h0:w.cell? a0=D v0)(h1:w.cell? ao=D v1)(ab:w.cell? a2=D v2)(ag:w.cell? s=D v3)(az:w.cell? z=D I)(M:w.cell? A=D K)(U:w.cell? G=D N)(al:w.cell? J=D ah)(bL:w.cell? L=D ak)(ay:w.cell? T=D ap):l.cell? a0=D v0/\l.cell? ao=D v1/\l.cell? a2=D v2/\l.cell? s=D v3/\l.cell? z=D I/\l.cell? A=D K/\l.cell? G=D N/\l.cell? J=D ah/\l.cell? L=D ak/\l.cell? T=D ap:=⟨V h0 b,V h1 b,V ab b,V ag b,V az b,V M b,V U b,V al b,V bL b,V ay b⟩
theorem vu{w l:ac}(b:Below w.heap.size w l){a0 ao a2 s z A G J L T an:cF}{v0 v1 v2 v3 I K N ah ak ap av:ae}(h0:w.cell? a0=D v0)(h1:w.cell? ao=D v1)(ab:w.cell? a2=D v2)(ag:w.cell? s=D v3)(az:w.cell? z=D I)(M:w.cell? A=D K)(U:w.cell? G=D N)(al:w.cell? J=D ah)(bL:w.cell? L=D ak)(ay:w.cell? T=D ap)(aE:w.cell? an=D av):l.cell? a0=D v0/\l.cell? ao=D v1/\l.cell? a2=D v2/\l.cell? s=D v3/\l.cell? z=D I/\l.cell? A=D K/\l.cell? G=D N/\l.cell? J=D ah/\l.cell? L=D ak/\l.cell? T=D ap/\l.cell? an=D av:=⟨V h0 b,V h1 b,V ab b,V ag b,V az b,V M b,V U b,V al b,V bL b,V ay b,V aE b⟩
theorem lb{w l:ac}(b:Below w.heap.size w l){a0 ao a2 s z A G J L T an ar:cF}{v0 v1 v2 v3 I K N ah ak ap av aA:ae}(h0:w.cell? a0=D v0)(h1:w.cell? ao=D v1)(ab:w.cell? a2=D v2)(ag:w.cell? s=D v3)(az:w.cell? z=D I)(M:w.cell? A=D K)(U:w.cell? G=D N)(al:w.cell? J=D ah)(bL:w.cell? L=D ak)(ay:w.cell? T=D ap)(aE:w.cell? an=D av)(aH:w.cell? ar=D aA):l.cell? a0=D v0/\l.cell? ao=D v1/\l.cell? a2=D v2/\l.cell? s=D v3/\l.cell? z=D I/\l.cell? A=D K/\l.cell? G=D N/\l.cell? J=D ah/\l.cell? L=D ak/\l.cell? T=D ap/\l.cell? an=D av/\l.cell? ar=D aA:=⟨V h0 b,V h1 b,V ab b,V ag b,V az b,V M b,V U b,V al b,V bL b,V ay b,V aE b,V aH b⟩
theorem ow{w l:ac}(b:Below w.heap.size w l){a0 ao a2 s z A G J L T an ar aC:cF}{v0 v1 v2 v3 I K N ah ak ap av aA aJ:ae}(h0:w.cell? a0=D v0)(h1:w.cell? ao=D v1)(ab:w.cell? a2=D v2)(ag:w.cell? s=D v3)(az:w.cell? z=D I)(M:w.cell? A=D K)(U:w.cell? G=D N)(al:w.cell? J=D ah)(bL:w.cell? L=D ak)(ay:w.cell? T=D ap)(aE:w.cell? an=D av)(aH:w.cell? ar=D aA)(aN:w.cell? aC=D aJ):l.cell? a0=D v0/\l.cell? ao=D v1/\l.cell? a2=D v2/\l.cell? s=D v3/\l.cell? z=D I/\l.cell? A=D K/\l.cell? G=D N/\l.cell? J=D ah/\l.cell? L=D ak/\l.cell? T=D ap/\l.cell? an=D av/\l.cell? ar=D aA/\l.cell? aC=D aJ:=⟨V h0 b,V h1 b,V ab b,V ag b,V az b,V M b,V U b,V al b,V bL b,V ay b,V aE b,V aH b,V aN b⟩
theorem ox{w l:ac}(b:Below w.heap.size w l){a0 ao a2 s z A G J L T an ar aC aF:cF}{v0 v1 v2 v3 I K N ah ak ap av aA aJ aM:ae}(h0:w.cell? a0=D v0)(h1:w.cell? ao=D v1)(ab:w.cell? a2=D v2)(ag:w.cell? s=D v3)(az:w.cell? z=D I)(M:w.cell? A=D K)(U:w.cell? G=D N)(al:w.cell? J=D ah)(bL:w.cell? L=D ak)(ay:w.cell? T=D ap)(aE:w.cell? an=D av)(aH:w.cell? ar=D aA)(aN:w.cell? aC=D aJ)(aR:w.cell? aF=D aM):l.cell? a0=D v0/\l.cell? ao=D v1/\l.cell? a2=D v2/\l.cell? s=D v3/\l.cell? z=D I/\l.cell? A=D K/\l.cell? G=D N/\l.cell? J=D ah/\l.cell? L=D ak/\l.cell? T=D ap/\l.cell? an=D av/\l.cell? ar=D aA/\l.cell? aC=D aJ/\l.cell? aF=D aM:=⟨V h0 b,V h1 b,V ab b,V ag b,V az b,V M b,V U b,V al b,V bL b,V ay b,V aE b,V aH b,V aN b,V aR b⟩
theorem vv{w l:ac}(b:Below w.heap.size w l){a0 ao a2 s z A G J L T an ar aC aF aO aP:cF}{v0 v1 v2 v3 I K N ah ak ap av aA aJ aM a3 a4:ae}(h0:w.cell? a0=D v0)(h1:w.cell? ao=D v1)(ab:w.cell? a2=D v2)(ag:w.cell? s=D v3)(az:w.cell? z=D I)(M:w.cell? A=D K)(U:w.cell? G=D N)(al:w.cell? J=D ah)(bL:w.cell? L=D ak)(ay:w.cell? T=D ap)(aE:w.cell? an=D av)(aH:w.cell? ar=D aA)(aN:w.cell? aC=D aJ)(aR:w.cell? aF=D aM)(a6:w.cell? aO=D a3)(a7:w.cell? aP=D a4):l.cell? a0=D v0/\l.cell? ao=D v1/\l.cell? a2=D v2/\l.cell? s=D v3/\l.cell? z=D I/\l.cell? A=D K/\l.cell? G=D N/\l.cell? J=D ah/\l.cell? L=D ak/\l.cell? T=D ap/\l.cell? an=D av/\l.cell? ar=D aA/\l.cell? aC=D aJ/\l.cell? aF=D aM/\l.cell? aO=D a3/\l.cell? aP=D a4:=⟨V h0 b,V h1 b,V ab b,V ag b,V az b,V M b,V U b,V al b,V bL b,V ay b,V aE b,V aH b,V aN b,V aR b,V a6 b,V a7 b⟩
theorem rQ{w l:ac}(b:Below w.heap.size w l){a0 ao a2 s z A G J L T an ar aC aF aO aP a8:cF}{v0 v1 v2 v3 I K N ah ak ap av aA aJ aM a3 a4 a9:ae}(h0:w.cell? a0=D v0)(h1:w.cell? ao=D v1)(ab:w.cell? a2=D v2)(ag:w.cell? s=D v3)(az:w.cell? z=D I)(M:w.cell? A=D K)(U:w.cell? G=D N)(al:w.cell? J=D ah)(bL:w.cell? L=D ak)(ay:w.cell? T=D ap)(aE:w.cell? an=D av)(aH:w.cell? ar=D aA)(aN:w.cell? aC=D aJ)(aR:w.cell? aF=D aM)(a6:w.cell? aO=D a3)(a7:w.cell? aP=D a4)(ba:w.cell? a8=D a9):l.cell? a0=D v0/\l.cell? ao=D v1/\l.cell? a2=D v2/\l.cell? s=D v3/\l.cell? z=D I/\l.cell? A=D K/\l.cell? G=D N/\l.cell? J=D ah/\l.cell? L=D ak/\l.cell? T=D ap/\l.cell? an=D av/\l.cell? ar=D aA/\l.cell? aC=D aJ/\l.cell? aF=D aM/\l.cell? aO=D a3/\l.cell? aP=D a4/\l.cell? a8=D a9:=⟨V h0 b,V h1 b,V ab b,V ag b,V az b,V M b,V U b,V al b,V bL b,V ay b,V aE b,V aH b,V aN b,V aR b,V a6 b,V a7 b,V ba b⟩
theorem Cb{w l:ac}(b:Below w.heap.size w l){a0 ao a2 s z A G J L T an ar aC aF aO aP a8 bg bh bi bj bk bl bm bn bs bt bu:cF}{v0 v1 v2 v3 I K N ah ak ap av aA aJ aM a3 a4 a9 bx bz bA bC bD bE bF bG bH bI bJ:ae}(h0:w.cell? a0=D v0)(h1:w.cell? ao=D v1)(ab:w.cell? a2=D v2)(ag:w.cell? s=D v3)(az:w.cell? z=D I)(M:w.cell? A=D K)(U:w.cell? G=D N)(al:w.cell? J=D ah)(bL:w.cell? L=D ak)(ay:w.cell? T=D ap)(aE:w.cell? an=D av)(aH:w.cell? ar=D aA)(aN:w.cell? aC=D aJ)(aR:w.cell? aF=D aM)(a6:w.cell? aO=D a3)(a7:w.cell? aP=D a4)(ba:w.cell? a8=D a9)(bM:w.cell? bg=D bx)(bN:w.cell? bh=D bz)(bO:w.cell? bi=D bA)(bP:w.cell? bj=D bC)(bQ:w.cell? bk=D bD)(bR:w.cell? bl=D bE)(bS:w.cell? bm=D bF)(bT:w.cell? bn=D bG)(bU:w.cell? bs=D bH)(bV:w.cell? bt=D bI)(bW:w.cell? bu=D bJ):l.cell? a0=D v0/\l.cell? ao=D v1/\l.cell? a2=D v2/\l.cell? s=D v3/\l.cell? z=D I/\l.cell? A=D K/\l.cell? G=D N/\l.cell? J=D ah/\l.cell? L=D ak/\l.cell? T=D ap/\l.cell? an=D av/\l.cell? ar=D aA/\l.cell? aC=D aJ/\l.cell? aF=D aM/\l.cell? aO=D a3/\l.cell? aP=D a4/\l.cell? a8=D a9/\l.cell? bg=D bx/\l.cell? bh=D bz/\l.cell? bi=D bA/\l.cell? bj=D bC/\l.cell? bk=D bD/\l.cell? bl=D bE/\l.cell? bm=D bF/\l.cell? bn=D bG/\l.cell? bs=D bH/\l.cell? bt=D bI/\l.cell? bu=D bJ:=⟨V h0 b,V h1 b,V ab b,V ag b,V az b,V M b,V U b,V al b,V bL b,V ay b,V aE b,V aH b,V aN b,V aR b,V a6 b,V a7 b,V ba b,V bM b,V bN b,V bO b,V bP b,V bQ b,V bR b,V bS b,V bT b,V bU b,V bV b,V bW b⟩
theorem aY{a0 ao:Prop}(h0:a0)(h1:ao):Hid a0/\Hid ao:=⟨h0,h1⟩
theorem cq{a0 ao a2:Prop}(h0:a0)(h1:ao)(ab:a2):Hid a0/\Hid ao/\Hid a2:=⟨h0,h1,ab⟩
theorem df{a0 ao a2 s:Prop}(h0:a0)(h1:ao)(ab:a2)(ag:s):Hid a0/\Hid ao/\Hid a2/\Hid s:=⟨h0,h1,ab,ag⟩
theorem dY{a0 ao a2 s z:Prop}(h0:a0)(h1:ao)(ab:a2)(ag:s)(az:z):Hid a0/\Hid ao/\Hid a2/\Hid s/\Hid z:=⟨h0,h1,ab,ag,az⟩
theorem ft{a0 ao a2 s z A:Prop}(h0:a0)(h1:ao)(ab:a2)(ag:s)(az:z)(M:A):Hid a0/\Hid ao/\Hid a2/\Hid s/\Hid z/\Hid A:=⟨h0,h1,ab,ag,az,M⟩
theorem kp{a0 ao a2 s z A G:Prop}(h0:a0)(h1:ao)(ab:a2)(ag:s)(az:z)(M:A)(U:G):Hid a0/\Hid ao/\Hid a2/\Hid s/\Hid z/\Hid A/\Hid G:=⟨h0,h1,ab,ag,az,M,U⟩
theorem l1{a0 ao a2 s z A G J:Prop}(h0:a0)(h1:ao)(ab:a2)(ag:s)(az:z)(M:A)(U:G)(al:J):Hid a0/\Hid ao/\Hid a2/\Hid s/\Hid z/\Hid A/\Hid G/\Hid J:=⟨h0,h1,ab,ag,az,M,U,al⟩
theorem jG{a0 ao a2 s z A G J L:Prop}(h0:a0)(h1:ao)(ab:a2)(ag:s)(az:z)(M:A)(U:G)(al:J)(bL:L):Hid a0/\Hid ao/\Hid a2/\Hid s/\Hid z/\Hid A/\Hid G/\Hid J/\Hid L:=⟨h0,h1,ab,ag,az,M,U,al,bL⟩
theorem rb{a0 ao a2 s z A G J L T:Prop}(h0:a0)(h1:ao)(ab:a2)(ag:s)(az:z)(M:A)(U:G)(al:J)(bL:L)(ay:T):Hid a0/\Hid ao/\Hid a2/\Hid s/\Hid z/\Hid A/\Hid G/\Hid J/\Hid L/\Hid T:=⟨h0,h1,ab,ag,az,M,U,al,bL,ay⟩
theorem rc{a0 ao a2 s z A G J L T an ar:Prop}(h0:a0)(h1:ao)(ab:a2)(ag:s)(az:z)(M:A)(U:G)(al:J)(bL:L)(ay:T)(aE:an)(aH:ar):Hid a0/\Hid ao/\Hid a2/\Hid s/\Hid z/\Hid A/\Hid G/\Hid J/\Hid L/\Hid T/\Hid an/\Hid ar:=⟨h0,h1,ab,ag,az,M,U,al,bL,ay,aE,aH⟩
theorem yP{a0 ao a2 s z A G J L T an ar aC aF:Prop}(h0:a0)(h1:ao)(ab:a2)(ag:s)(az:z)(M:A)(U:G)(al:J)(bL:L)(ay:T)(aE:an)(aH:ar)(aN:aC)(aR:aF):Hid a0/\Hid ao/\Hid a2/\Hid s/\Hid z/\Hid A/\Hid G/\Hid J/\Hid L/\Hid T/\Hid an/\Hid ar/\Hid aC/\Hid aF:=⟨h0,h1,ab,ag,az,M,U,al,bL,ay,aE,aH,aN,aR⟩
theorem tL{a0 ao a2 s z A G J L T an ar aC aF aO aP:Prop}(h0:a0)(h1:ao)(ab:a2)(ag:s)(az:z)(M:A)(U:G)(al:J)(bL:L)(ay:T)(aE:an)(aH:ar)(aN:aC)(aR:aF)(a6:aO)(a7:aP):Hid a0/\Hid ao/\Hid a2/\Hid s/\Hid z/\Hid A/\Hid G/\Hid J/\Hid L/\Hid T/\Hid an/\Hid ar/\Hid aC/\Hid aF/\Hid aO/\Hid aP:=⟨h0,h1,ab,ag,az,M,U,al,bL,ay,aE,aH,aN,aR,a6,a7⟩
theorem ax{v:ac}(h:Below v.heap.size v w)(aD:Below w.heap.size w Z):Below v.heap.size v Z:=h.trans (aD.mono h.size)
theorem aV(w:ac)(af:Obj):Below w.heap.size w (w.alloc af):=(Below.refl _ _).alloc (nN _) af
def cJ(n:Int):Bool:=au (-1000000<=n) && au (n<=1000000)
def eg(x y k:Int):Bool:=au (0<=k) && au (k<=3) && cJ x && cJ y
theorem b3(n a b:Int)(w:ac):bB aj 85 #[B o n, B o a, B o b] w fun e Z=>e= .returned (aa (au (a<=n) && au (n<=b)))/\w=Z:=by
 by_cases h1:a<=n
 ·go_in
  go_wp2;go_ret;exact⟨by simp[h1],rfl⟩
 go_in;go_wp2;go_ret;exact⟨by congr 2;simp;omega,rfl⟩
theorem nV(n:Int):bits .and o n 1=n % 2:=by
 have h:(j0 64 1).toNat=2 ^ 1-1:=by decide
 have key:(j0 64 n &&& j0 64 1).toNat=(n % ((2 ^ 64:Nat):Int)).toNat % 2 ^ 1:=by
  rw[BitVec.toNat_and,BitVec.toNat_ofInt,h,wE]
 show b7.wrap ((j0 64 n &&& j0 64 1).toNat:Nat)=n % 2
 rw[key,IntKind.wrap_i64];omega
theorem fL(n:Int):bits .and o n 3=n % 4:=by
 have h:(j0 64 3).toNat=2 ^ 2-1:=by decide
 have key:(j0 64 n &&& j0 64 3).toNat=(n % ((2 ^ 64:Nat):Int)).toNat % 2 ^ 2:=by
  rw[BitVec.toNat_and,BitVec.toNat_ofInt,h,wE]
 show b7.wrap ((j0 64 n &&& j0 64 3).toNat:Nat)=n % 4
 rw[key,IntKind.wrap_i64];omega
theorem g8(c:Int):(c.tmod 2==0)=au (c % 2=0):=by
 have b5:=Int.tmod_def c 2;rw[Bool.eq_iff_iff];simp only[beq_iff_eq,decide_eq_true_eq];constructor;·intro h;omega
 ·intro h;exact Int.tmod_eq_zero_of_dvd (by omega)
end
section
open Go.RowKit
structure Steps(w:ac):Prop where
 a0:w.cell? ⟨0,0,F⟩=D (B o (-1))
 ao:w.cell? ⟨0,1,F⟩=D (B o (-1))
 b0:w.cell? ⟨0,2,F⟩=D (B o 1)
 b1:w.cell? ⟨0,3,F⟩=D (B o (-1))
 a1:w.cell? ⟨0,4,F⟩=D (B o 1)
 c1:w.cell? ⟨0,5,F⟩=D (B o 1)
 d0:w.cell? ⟨0,6,F⟩=D (B o (-1))
 d1:w.cell? ⟨0,7,F⟩=D (B o 1)
theorem Steps.lt(h:Steps w):0 < w.heap.size:=iS w _ h.a0
theorem Steps.fX(h:Steps w)(aD:Below aS w Z)(aK:w.heap.size<=aS):Steps Z:=
 ⟨jk h.a0 aD aK,jk h.ao aD aK,jk h.b0 aD aK,jk h.b1 aD aK,jk h.a1 aD aK,jk h.c1 aD aK,jk h.d0 aD aK,jk h.d1 aD aK⟩
theorem Steps.below(h:Steps w)(aD:Below w.heap.size w Z):Steps Z:=h.fX aD (nN _)
theorem Steps.alloc(h:Steps w)(af:Obj):Steps (w.alloc af):=h.below (aV w af)
def eK(j:Int):Int:=if j=1 then 1 else if j=2 then 1 else -1
def eL(j:Int):Int:=if j=2 then 1 else if j=3 then 1 else -1
def bY(x k:Int):Int:=2*x+1+eK (k % 4)
def bZ(y k:Int):Int:=2*y+1+eL (k % 4)
theorem pS(af bX:Obj):Below w.heap.size w ((w.alloc af).alloc bX):=((Below.refl _ _).alloc (nN _) _).alloc (by simp) _
theorem s9(k aU aZ:Int)(g:Nat)(w:ac)(aT:Steps w)(a1:w.cell? ⟨g,0,F⟩=D (B o aU))(c1:w.cell? ⟨g,1,F⟩=D (B o aZ))
  (b8: -3000000<=aU) (b9:aU<=3000000) (ca: -3000000<=aZ) (cb:aZ<=3000000):
  bB aj 102 #[B o k, ad (D ⟨g,0,F⟩)] w fun e Z=>e= .returned (aq #[B o (aU+eK (k % 4)), B o (aZ+eL (k % 4))])/\Below w.heap.size w Z:=by
 have bw:g < w.heap.size:=iS w _ a1;have b6:=aT.lt;have aI:k % 4=0∨k % 4=1∨k % 4=2∨k % 4=3:=by omega
 rcases aI with aI | aI | aI | aI
 ·have bb:bits .and o k 3=0:=by rw[fL,aI]
  have a5:=Lib.hid aI;clear aI;have bc:=aT.a0;have bd:=aT.ao;go_in;go_wp2;refine cT (v:= aq #[B o (aU+(-1)), B o (aZ+(-1))]) (by simp[results,Tryz.results102,go_sem]) rfl ⟨by rw[a5.out];rfl, ?_⟩;exact pS _ _
 ·have bb:bits .and o k 3=1:=by rw[fL,aI]
  have a5:=Lib.hid aI;clear aI;have bc:=aT.b0;have bd:=aT.b1;go_in;go_wp2;refine cT (v:= aq #[B o (aU+1), B o (aZ+(-1))]) (by simp[results,Tryz.results102,go_sem]) rfl ⟨by rw[a5.out];rfl, ?_⟩;exact pS _ _
 ·have bb:bits .and o k 3=2:=by rw[fL,aI]
  have a5:=Lib.hid aI;clear aI;have bc:=aT.a1;have bd:=aT.c1;go_in;go_wp2;refine cT (v:= aq #[B o (aU+1), B o (aZ+1)]) (by simp[results,Tryz.results102,go_sem]) rfl ⟨by rw[a5.out];rfl, ?_⟩;exact pS _ _
 have bb:bits .and o k 3=3:=by rw[fL,aI]
 have a5:=Lib.hid aI;clear aI;have bc:=aT.d0;have bd:=aT.d1;go_in;go_wp2;refine cT (v:= aq #[B o (aU+(-1)), B o (aZ+1)]) (by simp[results,Tryz.results102,go_sem]) rfl ⟨by rw[a5.out];rfl, ?_⟩;exact pS _ _
end
end
section
set_option maxRecDepth 100000
open Go.RowKit
def hz(w:ac)(x y k:Int):ac:=((w.alloc (Y #[B o x, B o y, B o k] 53)).alloc (Y #[B o 0, B o 0, B o 0, B o 0, B o 0, B o 0] 117)).alloc (Y #[B o (2*x+1), B o (2*y+1)] 40)
theorem th(w:ac)(x y k:Int):(hz w x y k).heap[w.heap.size+1]? =D (Y #[B o 0, B o 0, B o 0, B o 0, B o 0, B o 0] 117 (0,0)):=by
 have e:=aQ (w.alloc (Y #[B o x, B o y, B o k] 53)) (Y #[B o 0, B o 0, B o 0, B o 0, B o 0, B o 0] 117);rw[em] at e;exact aW e _
theorem x2(w:ac)(x y k:Int):(hz w x y k).heap[w.heap.size+1+1]? =D (Y #[B o (2*x+1), B o (2*y+1)] 40 (0,0)):=by
 have e:=aQ ((w.alloc (Y #[B o x, B o y, B o k] 53)).alloc (Y #[B o 0, B o 0, B o 0, B o 0, B o 0, B o 0] 117)) (Y #[B o (2*x+1), B o (2*y+1)] 40);rw[em,em] at e;exact e
theorem x3(w:ac)(x y k:Int):(hz w x y k).heap[w.heap.size]? =D (Y #[B o x, B o y, B o k] 53 (0,0)):=aW (aW (aQ w _) _) _
theorem tg(w:ac)(x y k:Int)(i:Nat):(hz w x y k).drew.cell? ⟨w.heap.size+1+1,i,F⟩=#[Value.int o (2*x+1), B o (2*y+1)][i]? :=aB (x2 w x y k) i
theorem x1(w:ac)(x y k:Int):Below w.heap.size w (hz w x y k).drew:=(((aX.alloc ce _).alloc (by simp) _).alloc (by simp;omega) _).drew
theorem rR{w R:ac}(h:Below w.heap.size w R)(g:Nat)(E:w.heap.size<=g)(a b c d e f:ae):Below w.heap.size w ((((((R.setCell ⟨g,0,F⟩ a).setCell ⟨g,1,F⟩ b).setCell ⟨g,2,F⟩ c).setCell ⟨g,3,F⟩ d).setCell ⟨g,4,F⟩ e).setCell ⟨g,5,F⟩ f):=
 (((((h.setCell E a).setCell E b).setCell E c).setCell E d).setCell E e).setCell E f
theorem Do{w u v z:ac}(h:Below w.heap.size w u)(h1:Below u.heap.size u v)(ab:Below v.heap.size v z):Below w.heap.size w z:=ax (ax h h1) ab
theorem xS(args:Array ae)(T:ac):(callFunc 102 args).run aj T= .ok (.enter 102 args) T:=by kernel_rfl
theorem tb(x y k:Int)(w:ac)(P:Steps w)(aF: -1000000<=x)(aH:x<=1000000)(aI: -1000000<=y)(aJ:y<=1000000)(aC:0<=k)(aD:k<=3):
  bB aj 57 #[aq #[B o x, B o y, B o k]] w fun e Z=>e= .returned (aq #[B o (2*x+1), B o (2*y+1), B o (bY x k), B o (bZ y k), B o (bY x (k+1)), B o (bZ y (k+1))])/\Below w.heap.size w Z:=by
 have ay:=P.lt;have aw:=xS;have az:∀(fn:Fn) (first M:Array ae) (w:ac),(Instr.makeFunc fn first M).run aj w= .ok (.func fn first M) w:=fun _ _ _ _=>rfl;go_in
 go_wp2_with fail
 have L:Steps (hz w x y k):=((P.alloc _).alloc _).alloc _;have N:Below (hz w x y k).heap.size (hz w x y k) (hz w x y k).drew:=aX.drew;have hfz:∀i,(hz w x y k).drew.frozen? ⟨w.heap.size+1,i,F⟩=Q:=fun i=>br (th w x y k) i;have G:(hz w x y k).drew.heap[w.heap.size+1]? =_:=th w x y k;have K:(hz w x y k).drew.cell? ⟨w.heap.size,2,F⟩=D (B o k):=aB (x3 w x y k) 2;have s:=tg w x y k 0;have A:=tg w x y k 1;simp only[cP,cU,cO] at s A;unfold hz at hfz s A G K;have J:Below (hz w x y k).heap.size (hz w x y k) (((w.alloc (Y #[B o x, B o y, B o k] 53)).alloc (Y #[B o 0, B o 0, B o 0, B o 0, B o 0, B o 0] 117)).alloc (Y #[B o (2*x+1), B o (2*y+1)] 40)).drew:=N
 have aA:b7.wrap (k+1)=k+1:=IntWalk.i64_in _ (by omega)
 go_region_with (first
  | ((with_reducible refine(s9 (k) (2*x+1) (2*y+1) (w.heap.size+1+1) _ (L.below J) s A (by omega) (by omega) (by omega) (by omega)).mono ?_);rintro e wc ⟨rfl,l⟩;have an:=V K l;have ao:=V s l;have ap:=V A l)
  | ((with_reducible refine(s9 (k+1) (2*x+1) (2*y+1) (w.heap.size+1+1) _ (L.below (ax J l)) (V s l) (V A l) (by omega) (by omega) (by omega) (by omega)).mono ?_);rintro e aE ⟨rfl,I⟩;have r:=aG (aG G l (am G)) I (am (aG G l (am G)));have ar:=V (jk s l ce) I;have av:=V (jk A l ce) I;have U:=aB r 0;have af:=aB r 1;have ag:=aB r 2;have ah:=aB r 3;have ai:=aB r 4;have ak:=aB r 5;have aK:=br r;simp only[cP,cU,cO] at U af ag ah ai ak;clear r))
 all_goals
  have al:=Do (x1 w x y k) l I;clear N J hfz s A ao ap ar av K an G l I L;go_wp2;exact cT (v:= aq #[B o (2*x+1), B o (2*y+1), B o (2*x+1+eK (k % 4)), B o (2*y+1+eL (k % 4)), B o (2*x+1+eK ((k+1) % 4)), B o (2*y+1+eL ((k+1) % 4))]) (by simp[results,Tryz.results57,go_sem,U,af,ag,ah,ai,ak]) rfl ⟨rfl,rR al _ (by omega) _ _ _ _ _ _⟩
end
section
set_option maxRecDepth 100000
open Go.RowKit
theorem dE{W:ac}{n:Nat}(af:Obj)(h:n=W.heap.size):(W.alloc af).heap[n]? =D af:=by subst h;exact aQ W af
theorem aN{w W:ac}(h:Below w.heap.size w W)(af:Obj):Below w.heap.size w (W.alloc af):=h.alloc h.size af
def sz(w:ac)(e:Ending)(a b c d p q:Int):Prop:=∃g,e= .returned (O (D ⟨g,0,F⟩) 3 3)/\w.heap[g]? =D (Y #[B o a, B o b, B o c, B o d, B o p, B o q] 40 (0,0))
theorem xU(x y k:Int)(w:ac)(A: -1000000<=x)(E:x<=1000000)(G: -1000000<=y)(I:y<=1000000)(s:0<=k)(z:k<=3):
  bB aj 77 #[aq #[B o x, B o y, B o k]] w fun e Z=>sz Z e (2*x+1) (2*y+1) (bY x k) (bZ y k) (bY x (k+1)) (bZ y (k+1))/\Below w.heap.size w Z:=by
 have r:k=0∨k=1∨k=2∨k=3:=by omega
 rcases r with rfl | rfl | rfl | rfl
 ·have ap:bY x 0=2*x:=by simp[bY,eK];try omega
  have ak:bZ y 0=2*y:=by simp[bZ,eL];try omega
  have i:bY x (0+1)=2*x+2:=by simp[bY,eK];try omega
  have l:bZ y (0+1)=2*y:=by simp[bZ,eL];try omega
  rw[ap,ak,i,l];clear ap ak i l;go_in
  go_wp2_with fail
  go_quiet (fail)
  go_wp2;go_ret;refine⟨⟨_,rfl, ?_⟩, ?_⟩;·exact dE _ (by simp)
  ·exact aN (aN (aN (aN (aN (aN (below_drewN (aN aX _) _) _) _) _) _) _) _
 ·have ap:bY x 1=2*x+2:=by simp[bY,eK];try omega
  have ak:bZ y 1=2*y:=by simp[bZ,eL];try omega
  have i:bY x (1+1)=2*x+2:=by simp[bY,eK];try omega
  have l:bZ y (1+1)=2*y+2:=by simp[bZ,eL];try omega
  rw[ap,ak,i,l];clear ap ak i l;go_in
  go_wp2_with fail
  go_quiet (fail)
  go_wp2;go_ret;refine⟨⟨_,rfl, ?_⟩, ?_⟩;·exact dE _ (by simp)
  ·exact aN (aN (aN (aN (aN (aN (below_drewN (aN aX _) _) _) _) _) _) _) _
 ·have ap:bY x 2=2*x+2:=by simp[bY,eK];try omega
  have ak:bZ y 2=2*y+2:=by simp[bZ,eL];try omega
  have i:bY x (2+1)=2*x:=by simp[bY,eK];try omega
  have l:bZ y (2+1)=2*y+2:=by simp[bZ,eL];try omega
  rw[ap,ak,i,l];clear ap ak i l;go_in
  go_wp2_with fail
  go_quiet (fail)
  go_wp2;go_ret;refine⟨⟨_,rfl, ?_⟩, ?_⟩;·exact dE _ (by simp)
  ·exact aN (aN (aN (aN (aN (aN (below_drewN (aN aX _) _) _) _) _) _) _) _
 have ap:bY x 3=2*x:=by simp[bY,eK];try omega
 have ak:bZ y 3=2*y+2:=by simp[bZ,eL];try omega
 have i:bY x (3+1)=2*x:=by simp[bY,eK];try omega
 have l:bZ y (3+1)=2*y:=by simp[bZ,eL];try omega
 rw[ap,ak,i,l];clear ap ak i l;go_in
 go_wp2_with fail
 go_quiet (fail)
 go_wp2;go_ret;refine⟨⟨_,rfl, ?_⟩, ?_⟩;·exact dE _ (by simp)
 ·exact aN (aN (aN (aN (aN (aN (below_drewN (aN aX _) _) _) _) _) _) _) _
end
section
set_option maxRecDepth 100000
open Go.RowKit
variable {w l:ac}
abbrev aO:=Int×Int×Int×Int
abbrev bu(a b:Int):ae:= aq #[B o a, B o b]
abbrev bS(m:aO):ae:= aq #[B o m.1, B o m.2.1, B o m.2.2.1, B o m.2.2.2]
def fh(a b c d:Int):Bool:=au (a < c) || (au (a=c) && au (b < d))
def eI(a b c d:Int):aO:=if fh c d a b then(c,d,a,b) else(a,b,c,d)
theorem mf(h:Below w.heap.size w l)(g:Nat)(s:w.heap.size<=g)(a b:ae):Below w.heap.size w ((l.setCell ⟨g,0,F⟩ a).setCell ⟨g,1,F⟩ b):=(h.setCell s a).setCell s b
theorem vy(h:Below w.heap.size w l)(g:Nat)(s:w.heap.size<=g)(a b c d:ae):Below w.heap.size w ((((l.setCell ⟨g,0,F⟩ a).setCell ⟨g,1,F⟩ b).setCell ⟨g,2,F⟩ c).setCell ⟨g,3,F⟩ d):=(((h.setCell s a).setCell s b).setCell s c).setCell s d
theorem ng(w:ac)(af bX T:Obj):Below w.heap.size w (((w.alloc af).alloc bX).alloc T):=aN (aN (aN aX _) _) _
theorem pj(a b c d:Int)(w:ac):bB aj 110 #[bu a b,bu c d] w fun e Z=>e= .returned (aa (fh a b c d))/\Below w.heap.size w Z:=by
 have G:Below w.heap.size w ((w.alloc (Y #[B o a, B o b] 40)).alloc (Y #[B o c, B o d] 40)):=aN (aN aX _) _;by_cases a1:a < c
 ·go_in
  go_wp2;go_ret;exact⟨by simp[fh,a1],G⟩
 by_cases c1:a=c
 ·subst c1
  by_cases c2:b < d
  ·go_in
   go_wp2;go_ret;exact⟨by simp[fh,c2],G⟩
  go_in;go_wp2;go_ret;exact⟨by simp[fh];try omega,G⟩
 go_in;go_wp2;go_ret;exact⟨by simp[fh,c1];try omega,G⟩
theorem pN(a b c d:Int)(w:ac):bB aj 79 #[bu a b,bu c d] w fun e Z=>e= .returned (bS (eI a b c d))/\Below w.heap.size w Z:=by
 cases av:fh c d a b
 ·have i:Hid (eI a b c d=(a,b,c,d)):=R (by simp[eI,av])
  have I:=R av;clear av;go_in
  go_wp2_with fail
  refine aw (pj c d a b _) fun l k=> ?_;rw[I.out];have ap:=aQ w (Y #[B o a, B o b] 40);have ak:=aQ (w.alloc (Y #[B o a, B o b] 40)) (Y #[B o c, B o d] 40);rw[em] at ak;have z:=ng w (Y #[B o a, B o b] 40) (Y #[B o c, B o d] 40) (Y #[B o 0, B o 0, B o 0, B o 0] 42);have r:=aQ ((w.alloc (Y #[B o a, B o b] 40)).alloc (Y #[B o c, B o d] 40)) (Y #[B o 0, B o 0, B o 0, B o 0] 42);rw[em,em] at r;have A:=aG (aW (aW ap _) (Y #[B o 0, B o 0, B o 0, B o 0] 42)) k (by first | (simp;done) | (simp;omega));have E:=aG (aW ak (Y #[B o 0, B o 0, B o 0, B o 0] 42)) k (by first | (simp;done) | (simp;omega))
  have y:=aG r k (by first | (simp;done) | (simp;omega));have J:Below w.heap.size w l:=ax z k;clear ap ak r z k;obtain⟨p0,cz⟩:=d7 A;obtain⟨q0,aZ⟩:=d7 E;have U:=am A;have V:=am E;have ab:=am y;have P:=br y;obtain⟨K,L,M,N⟩:=dm y;go_wp2;refine cT (v:=bS (a,b,c,d)) (by simp[results,Tryz.results79,go_sem,K,L,M,N]) rfl ⟨by rw[i.out], ?_⟩;exact vy J _ (by omega) _ _ _ _
 have i:Hid (eI a b c d=(c,d,a,b)):=R (by simp[eI,av]);have I:=R av;clear av;go_in
 go_wp2_with fail
 refine aw (pj c d a b _) fun l k=> ?_;rw[I.out];have ap:=aQ w (Y #[B o a, B o b] 40);have ak:=aQ (w.alloc (Y #[B o a, B o b] 40)) (Y #[B o c, B o d] 40);rw[em] at ak;have z:=ng w (Y #[B o a, B o b] 40) (Y #[B o c, B o d] 40) (Y #[B o 0, B o 0, B o 0, B o 0] 42);have r:=aQ ((w.alloc (Y #[B o a, B o b] 40)).alloc (Y #[B o c, B o d] 40)) (Y #[B o 0, B o 0, B o 0, B o 0] 42);rw[em,em] at r;have A:=aG (aW (aW ap _) (Y #[B o 0, B o 0, B o 0, B o 0] 42)) k (by first | (simp;done) | (simp;omega));have E:=aG (aW ak (Y #[B o 0, B o 0, B o 0, B o 0] 42)) k (by first | (simp;done) | (simp;omega))
 have y:=aG r k (by first | (simp;done) | (simp;omega));have J:Below w.heap.size w l:=ax z k;clear ap ak r z k;obtain⟨p0,cz⟩:=d7 A;obtain⟨q0,aZ⟩:=d7 E;have U:=am A;have V:=am E;have ab:=am y;have P:=br y;obtain⟨K,L,M,N⟩:=dm y;go_wp2;refine cT (v:=bS (c,d,a,b)) (by simp[results,Tryz.results79,go_sem,K,L,M,N]) rfl ⟨by rw[i.out], ?_⟩;exact vy J _ (by omega) _ _ _ _
theorem pW(a b c d:Int)(w:ac):bB aj 118 #[bu a b,bu c d] w fun e Z=>e= .returned (bS (eI a b c d))/\Below w.heap.size w Z:=by
 by_cases a1:c < a
 ·have i:Hid (eI a b c d=(c,d,a,b)):=R (by simp[eI,fh,a1];try omega)
  go_in;go_wp2;refine cT (v:=bS (c,d,a,b)) (by simp[results,Tryz.results118,go_sem]) rfl ⟨by rw[i.out], ?_⟩;exact ng w _ _ _
 by_cases c1:a=c
 ·subst c1
  by_cases c2:d < b
  ·have i:Hid (eI a b a d=(a,d,a,b)):=R (by simp[eI,fh,c2];try omega)
   go_in;go_wp2;refine cT (v:=bS (a,d,a,b)) (by simp[results,Tryz.results118,go_sem]) rfl ⟨by rw[i.out], ?_⟩;exact ng w _ _ _
  have i:Hid (eI a b a d=(a,b,a,d)):=R (by simp[eI,fh];try omega);go_in;go_wp2;refine cT (v:=bS (a,b,a,d)) (by simp[results,Tryz.results118,go_sem]) rfl ⟨by rw[i.out], ?_⟩;exact ng w _ _ _
 have i:Hid (eI a b c d=(a,b,c,d)):=R (by simp[eI,fh];try omega);go_in;go_wp2;refine cT (v:=bS (a,b,c,d)) (by simp[results,Tryz.results118,go_sem]) rfl ⟨by rw[i.out], ?_⟩;exact ng w _ _ _
end
end Go.Proofs.YteaeipgfjmnecaaGreatDoor

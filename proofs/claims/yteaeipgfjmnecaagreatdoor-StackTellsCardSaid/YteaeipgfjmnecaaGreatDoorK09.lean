/- Lemmas; each says its own conditions. -/
import Derived.Test.YteaeipgfjmnecaaGreatDoorK06
open Bool renaming false->Q,true->S
open Go.IntKind renaming i64->o
open Go.Obj renaming cells->Y
open Go.Proofs.Tryz renaming prog->aj
open Go.Value renaming bool->aa,int->B
namespace Go.Proofs.YteaeipgfjmnecaaGreatDoor
set_option linter.unusedSimpArgs false
set_option linter.unusedVariables false
set_option maxHeartbeats 12800000
section
set_option maxRecDepth 100000
open Go.RowKit Go.Maps
theorem cX(a b:Int)(w:World):Calls aj 59 #[B o a, B o b] w fun e Z=>e= .returned (aa (ew a b))/\w=Z:=by
 by_cases h1:a=1
 ·subst h1
  go_in;go_wp2;go_ret;exact⟨by simp[ew],rfl⟩
 by_cases ab:a= -1
 ·subst ab
  go_in;go_wp2;go_ret;exact⟨by simp[ew],rfl⟩
 have b1:(a==1)=Q:=by simpa using h1
 have aC:(a== -1)=Q:=by simpa using ab
 have V:Hid (ew a b=Q):=R (by simp[ew,b1,aC]);clear h1 ab;go_in;go_wp2;go_ret;exact⟨by rw[V.out];rfl,rfl⟩
theorem Bt(args:Array Value)(U:World):(callFunc 59 args).run aj U= .ok (.enter 59 args) U:=by kernel_rfl
theorem uk(a b c d e f:Int)(w:World):Calls aj 20 #[b2 (a,b,c,d,e,f)] w fun r Z=>r= .returned (aa (bf (a,b,c,d,e,f)))/\Below w.heap.size w Z:=by
 have E:=aV w (Y #[B o a, B o b, B o c, B o d, B o e, B o f] 64);have ae:=Bt;have ac:=nV e;have ad:=nV f;cases g:ew a b
 ·have D:=R g
  cases l:ew b a
  ·have J:=R l
   have i:Hid (bf (a,b,c,d,e,f)=Q):=R (by simp[bf,dh,cE,g,l]);clear g l;go_in
   go_wp2_with fail
   refine(cX a b _).mono ?_;rintro r F ⟨rfl,rfl⟩;rw[D.out]
   go_wp2_with fail
   refine(cX b a _).mono ?_;rintro r G ⟨rfl,rfl⟩;rw[J.out];go_wp2;go_ret;exact⟨by rw[i.out];rfl,E⟩
  have J:=R l;cases s:ew c d
  ·have M:=R s
   have i:Hid (bf (a,b,c,d,e,f)=Q):=R (by simp[bf,dh,cE,g,l,s]);clear g l s;go_in
   go_wp2_with fail
   refine(cX a b _).mono ?_;rintro r F ⟨rfl,rfl⟩;rw[D.out]
   go_wp2_with fail
   refine(cX b a _).mono ?_;rintro r G ⟨rfl,rfl⟩;rw[J.out]
   go_wp2_with fail
   refine(cX c d _).mono ?_;rintro r L ⟨rfl,rfl⟩;rw[M.out];go_wp2;go_ret;exact⟨by rw[i.out];rfl,E⟩
  have M:=R s;cases k:cJ e
  ·have A:=R k
   have i:Hid (bf (a,b,c,d,e,f)=Q):=R (by simp[bf,dh,cE,g,l,s,k]);clear g l s k;go_in
   go_wp2_with fail
   refine(cX a b _).mono ?_;rintro r F ⟨rfl,rfl⟩;rw[D.out]
   go_wp2_with fail
   refine(cX b a _).mono ?_;rintro r G ⟨rfl,rfl⟩;rw[J.out]
   go_wp2_with fail
   refine(cX c d _).mono ?_;rintro r L ⟨rfl,rfl⟩;rw[M.out]
   go_wp2_with fail
   refine(es e _).mono ?_;rintro r N ⟨rfl,rfl⟩;rw[A.out];go_wp2;go_ret;exact⟨by rw[i.out];rfl,E⟩
  have A:=R k;cases hf:cJ f
  ·have I:=R hf
   have i:Hid (bf (a,b,c,d,e,f)=Q):=R (by simp[bf,dh,cE,g,l,s,hf]);clear g l s k hf;go_in
   go_wp2_with fail
   refine(cX a b _).mono ?_;rintro r F ⟨rfl,rfl⟩;rw[D.out]
   go_wp2_with fail
   refine(cX b a _).mono ?_;rintro r G ⟨rfl,rfl⟩;rw[J.out]
   go_wp2_with fail
   refine(cX c d _).mono ?_;rintro r L ⟨rfl,rfl⟩;rw[M.out]
   go_wp2_with fail
   refine(es e _).mono ?_;rintro r N ⟨rfl,rfl⟩;rw[A.out]
   go_wp2_with fail
   refine(es f _).mono ?_;rintro r P ⟨rfl,rfl⟩;rw[I.out];go_wp2;go_ret;exact⟨by rw[i.out];rfl,E⟩
  have I:=R hf;cases ab:(e % 2==0)
  ·have z:¬e % 2=0:=by simpa using ab
   have i:Hid (bf (a,b,c,d,e,f)=Q):=R (by simp[bf,dh,cE,g,l,s,k,hf,z]);clear g l s k hf z;go_in
   go_wp2_with fail
   refine(cX a b _).mono ?_;rintro r F ⟨rfl,rfl⟩;rw[D.out]
   go_wp2_with fail
   refine(cX b a _).mono ?_;rintro r G ⟨rfl,rfl⟩;rw[J.out]
   go_wp2_with fail
   refine(cX c d _).mono ?_;rintro r L ⟨rfl,rfl⟩;rw[M.out]
   go_wp2_with fail
   refine(es e _).mono ?_;rintro r N ⟨rfl,rfl⟩;rw[A.out]
   go_wp2_with fail
   refine(es f _).mono ?_;rintro r P ⟨rfl,rfl⟩;rw[I.out];go_wp2;go_ret;exact⟨by rw[i.out];rfl,E⟩
  have z:e % 2=0:=by simpa using ab
  cases ag:(f % 2==0)
  ·have K:¬f % 2=0:=by simpa using ag
   have i:Hid (bf (a,b,c,d,e,f)=Q):=R (by simp[bf,dh,cE,g,l,s,k,hf,z,K]);clear g l s k hf z K;go_in
   go_wp2_with fail
   refine(cX a b _).mono ?_;rintro r F ⟨rfl,rfl⟩;rw[D.out]
   go_wp2_with fail
   refine(cX b a _).mono ?_;rintro r G ⟨rfl,rfl⟩;rw[J.out]
   go_wp2_with fail
   refine(cX c d _).mono ?_;rintro r L ⟨rfl,rfl⟩;rw[M.out]
   go_wp2_with fail
   refine(es e _).mono ?_;rintro r N ⟨rfl,rfl⟩;rw[A.out]
   go_wp2_with fail
   refine(es f _).mono ?_;rintro r P ⟨rfl,rfl⟩;rw[I.out];go_wp2;go_ret;exact⟨by rw[i.out];rfl,E⟩
  have K:f % 2=0:=by simpa using ag
  have i:Hid (bf (a,b,c,d,e,f)=S):=R (by simp[bf,dh,cE,g,l,s,k,hf,z,K]);clear g l s k hf z K;go_in
  go_wp2_with fail
  refine(cX a b _).mono ?_;rintro r F ⟨rfl,rfl⟩;rw[D.out]
  go_wp2_with fail
  refine(cX b a _).mono ?_;rintro r G ⟨rfl,rfl⟩;rw[J.out]
  go_wp2_with fail
  refine(cX c d _).mono ?_;rintro r L ⟨rfl,rfl⟩;rw[M.out]
  go_wp2_with fail
  refine(es e _).mono ?_;rintro r N ⟨rfl,rfl⟩;rw[A.out]
  go_wp2_with fail
  refine(es f _).mono ?_;rintro r P ⟨rfl,rfl⟩;rw[I.out];go_wp2;go_ret;exact⟨by rw[i.out];rfl,E⟩
 have D:=R g;cases y:ew d c
 ·have O:=R y
  cases l:ew b a
  ·have J:=R l
   have i:Hid (bf (a,b,c,d,e,f)=Q):=R (by simp[bf,dh,cE,g,y,l]);clear g y l;go_in
   go_wp2_with fail
   refine(cX a b _).mono ?_;rintro r F ⟨rfl,rfl⟩;rw[D.out]
   go_wp2_with fail
   refine(cX d c _).mono ?_;rintro r G ⟨rfl,rfl⟩;rw[O.out]
   go_wp2_with fail
   refine(cX b a _).mono ?_;rintro r L ⟨rfl,rfl⟩;rw[J.out];go_wp2;go_ret;exact⟨by rw[i.out];rfl,E⟩
  have J:=R l;cases s:ew c d
  ·have M:=R s
   have i:Hid (bf (a,b,c,d,e,f)=Q):=R (by simp[bf,dh,cE,g,y,l,s]);clear g y l s;go_in
   go_wp2_with fail
   refine(cX a b _).mono ?_;rintro r F ⟨rfl,rfl⟩;rw[D.out]
   go_wp2_with fail
   refine(cX d c _).mono ?_;rintro r G ⟨rfl,rfl⟩;rw[O.out]
   go_wp2_with fail
   refine(cX b a _).mono ?_;rintro r L ⟨rfl,rfl⟩;rw[J.out]
   go_wp2_with fail
   refine(cX c d _).mono ?_;rintro r N ⟨rfl,rfl⟩;rw[M.out];go_wp2;go_ret;exact⟨by rw[i.out];rfl,E⟩
  have M:=R s;cases k:cJ e
  ·have A:=R k
   have i:Hid (bf (a,b,c,d,e,f)=Q):=R (by simp[bf,dh,cE,g,y,l,s,k]);clear g y l s k;go_in
   go_wp2_with fail
   refine(cX a b _).mono ?_;rintro r F ⟨rfl,rfl⟩;rw[D.out]
   go_wp2_with fail
   refine(cX d c _).mono ?_;rintro r G ⟨rfl,rfl⟩;rw[O.out]
   go_wp2_with fail
   refine(cX b a _).mono ?_;rintro r L ⟨rfl,rfl⟩;rw[J.out]
   go_wp2_with fail
   refine(cX c d _).mono ?_;rintro r N ⟨rfl,rfl⟩;rw[M.out]
   go_wp2_with fail
   refine(es e _).mono ?_;rintro r P ⟨rfl,rfl⟩;rw[A.out];go_wp2;go_ret;exact⟨by rw[i.out];rfl,E⟩
  have A:=R k;cases hf:cJ f
  ·have I:=R hf
   have i:Hid (bf (a,b,c,d,e,f)=Q):=R (by simp[bf,dh,cE,g,y,l,s,hf]);clear g y l s k hf;go_in
   go_wp2_with fail
   refine(cX a b _).mono ?_;rintro r F ⟨rfl,rfl⟩;rw[D.out]
   go_wp2_with fail
   refine(cX d c _).mono ?_;rintro r G ⟨rfl,rfl⟩;rw[O.out]
   go_wp2_with fail
   refine(cX b a _).mono ?_;rintro r L ⟨rfl,rfl⟩;rw[J.out]
   go_wp2_with fail
   refine(cX c d _).mono ?_;rintro r N ⟨rfl,rfl⟩;rw[M.out]
   go_wp2_with fail
   refine(es e _).mono ?_;rintro r P ⟨rfl,rfl⟩;rw[A.out]
   go_wp2_with fail
   refine(es f _).mono ?_;rintro r T ⟨rfl,rfl⟩;rw[I.out];go_wp2;go_ret;exact⟨by rw[i.out];rfl,E⟩
  have I:=R hf;cases ab:(e % 2==0)
  ·have z:¬e % 2=0:=by simpa using ab
   have i:Hid (bf (a,b,c,d,e,f)=Q):=R (by simp[bf,dh,cE,g,y,l,s,k,hf,z]);clear g y l s k hf z;go_in
   go_wp2_with fail
   refine(cX a b _).mono ?_;rintro r F ⟨rfl,rfl⟩;rw[D.out]
   go_wp2_with fail
   refine(cX d c _).mono ?_;rintro r G ⟨rfl,rfl⟩;rw[O.out]
   go_wp2_with fail
   refine(cX b a _).mono ?_;rintro r L ⟨rfl,rfl⟩;rw[J.out]
   go_wp2_with fail
   refine(cX c d _).mono ?_;rintro r N ⟨rfl,rfl⟩;rw[M.out]
   go_wp2_with fail
   refine(es e _).mono ?_;rintro r P ⟨rfl,rfl⟩;rw[A.out]
   go_wp2_with fail
   refine(es f _).mono ?_;rintro r T ⟨rfl,rfl⟩;rw[I.out];go_wp2;go_ret;exact⟨by rw[i.out];rfl,E⟩
  have z:e % 2=0:=by simpa using ab
  cases ag:(f % 2==0)
  ·have K:¬f % 2=0:=by simpa using ag
   have i:Hid (bf (a,b,c,d,e,f)=Q):=R (by simp[bf,dh,cE,g,y,l,s,k,hf,z,K]);clear g y l s k hf z K;go_in
   go_wp2_with fail
   refine(cX a b _).mono ?_;rintro r F ⟨rfl,rfl⟩;rw[D.out]
   go_wp2_with fail
   refine(cX d c _).mono ?_;rintro r G ⟨rfl,rfl⟩;rw[O.out]
   go_wp2_with fail
   refine(cX b a _).mono ?_;rintro r L ⟨rfl,rfl⟩;rw[J.out]
   go_wp2_with fail
   refine(cX c d _).mono ?_;rintro r N ⟨rfl,rfl⟩;rw[M.out]
   go_wp2_with fail
   refine(es e _).mono ?_;rintro r P ⟨rfl,rfl⟩;rw[A.out]
   go_wp2_with fail
   refine(es f _).mono ?_;rintro r T ⟨rfl,rfl⟩;rw[I.out];go_wp2;go_ret;exact⟨by rw[i.out];rfl,E⟩
  have K:f % 2=0:=by simpa using ag
  have i:Hid (bf (a,b,c,d,e,f)=S):=R (by simp[bf,dh,cE,g,y,l,s,k,hf,z,K]);clear g y l s k hf z K;go_in
  go_wp2_with fail
  refine(cX a b _).mono ?_;rintro r F ⟨rfl,rfl⟩;rw[D.out]
  go_wp2_with fail
  refine(cX d c _).mono ?_;rintro r G ⟨rfl,rfl⟩;rw[O.out]
  go_wp2_with fail
  refine(cX b a _).mono ?_;rintro r L ⟨rfl,rfl⟩;rw[J.out]
  go_wp2_with fail
  refine(cX c d _).mono ?_;rintro r N ⟨rfl,rfl⟩;rw[M.out]
  go_wp2_with fail
  refine(es e _).mono ?_;rintro r P ⟨rfl,rfl⟩;rw[A.out]
  go_wp2_with fail
  refine(es f _).mono ?_;rintro r T ⟨rfl,rfl⟩;rw[I.out];go_wp2;go_ret;exact⟨by rw[i.out];rfl,E⟩
 have O:=R y;cases k:cJ e
 ·have A:=R k
  have i:Hid (bf (a,b,c,d,e,f)=Q):=R (by simp[bf,dh,cE,g,y,k]);clear g y k;go_in
  go_wp2_with fail
  refine(cX a b _).mono ?_;rintro r F ⟨rfl,rfl⟩;rw[D.out]
  go_wp2_with fail
  refine(cX d c _).mono ?_;rintro r G ⟨rfl,rfl⟩;rw[O.out]
  go_wp2_with fail
  refine(es e _).mono ?_;rintro r L ⟨rfl,rfl⟩;rw[A.out];go_wp2;go_ret;exact⟨by rw[i.out];rfl,E⟩
 have A:=R k;cases hf:cJ f
 ·have I:=R hf
  have i:Hid (bf (a,b,c,d,e,f)=Q):=R (by simp[bf,dh,cE,g,y,hf]);clear g y k hf;go_in
  go_wp2_with fail
  refine(cX a b _).mono ?_;rintro r F ⟨rfl,rfl⟩;rw[D.out]
  go_wp2_with fail
  refine(cX d c _).mono ?_;rintro r G ⟨rfl,rfl⟩;rw[O.out]
  go_wp2_with fail
  refine(es e _).mono ?_;rintro r L ⟨rfl,rfl⟩;rw[A.out]
  go_wp2_with fail
  refine(es f _).mono ?_;rintro r N ⟨rfl,rfl⟩;rw[I.out];go_wp2;go_ret;exact⟨by rw[i.out];rfl,E⟩
 have I:=R hf;cases ab:(e % 2==0)
 ·have z:¬e % 2=0:=by simpa using ab
  have i:Hid (bf (a,b,c,d,e,f)=Q):=R (by simp[bf,dh,cE,g,y,k,hf,z]);clear g y k hf z;go_in
  go_wp2_with fail
  refine(cX a b _).mono ?_;rintro r F ⟨rfl,rfl⟩;rw[D.out]
  go_wp2_with fail
  refine(cX d c _).mono ?_;rintro r G ⟨rfl,rfl⟩;rw[O.out]
  go_wp2_with fail
  refine(es e _).mono ?_;rintro r L ⟨rfl,rfl⟩;rw[A.out]
  go_wp2_with fail
  refine(es f _).mono ?_;rintro r N ⟨rfl,rfl⟩;rw[I.out];go_wp2;go_ret;exact⟨by rw[i.out];rfl,E⟩
 have z:e % 2=0:=by simpa using ab
 cases ag:(f % 2==0)
 ·have K:¬f % 2=0:=by simpa using ag
  have i:Hid (bf (a,b,c,d,e,f)=Q):=R (by simp[bf,dh,cE,g,y,k,hf,z,K]);clear g y k hf z K;go_in
  go_wp2_with fail
  refine(cX a b _).mono ?_;rintro r F ⟨rfl,rfl⟩;rw[D.out]
  go_wp2_with fail
  refine(cX d c _).mono ?_;rintro r G ⟨rfl,rfl⟩;rw[O.out]
  go_wp2_with fail
  refine(es e _).mono ?_;rintro r L ⟨rfl,rfl⟩;rw[A.out]
  go_wp2_with fail
  refine(es f _).mono ?_;rintro r N ⟨rfl,rfl⟩;rw[I.out];go_wp2;go_ret;exact⟨by rw[i.out];rfl,E⟩
 have K:f % 2=0:=by simpa using ag
 have i:Hid (bf (a,b,c,d,e,f)=S):=R (by simp[bf,dh,cE,g,y,k,hf,z,K]);clear g y k hf z K;go_in
 go_wp2_with fail
 refine(cX a b _).mono ?_;rintro r F ⟨rfl,rfl⟩;rw[D.out]
 go_wp2_with fail
 refine(cX d c _).mono ?_;rintro r G ⟨rfl,rfl⟩;rw[O.out]
 go_wp2_with fail
 refine(es e _).mono ?_;rintro r L ⟨rfl,rfl⟩;rw[A.out]
 go_wp2_with fail
 refine(es f _).mono ?_;rintro r N ⟨rfl,rfl⟩;rw[I.out];go_wp2;go_ret;exact⟨by rw[i.out];rfl,E⟩
end
end Go.Proofs.YteaeipgfjmnecaaGreatDoor

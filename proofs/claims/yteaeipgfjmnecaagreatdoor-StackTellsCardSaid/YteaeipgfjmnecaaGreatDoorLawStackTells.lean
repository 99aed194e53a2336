/-
 For every state, a call of 'pleatlaw.StackTells' returns true, and what was handed in reads behind the call as it read before.
 Conditions: none beyond the row's own (the given text Rows: 'stackTellsRow').
-/
import Derived.Test.YteaeipgfjmnecaaGreatDoorRows
import Derived.Test.YteaeipgfjmnecaaGreatDoorK24
import Derived.ChangeOld
namespace Go.Proofs.YteaeipgfjmnecaaGreatDoor.stackTells
open Go.ChangeShapes Go.WideShapes Go.ChangeAt Go.RowKit
set_option linter.unusedVariables false
theorem own:ownKnob Tryz.prog.godebug=none:=by kernel_rfl
theorem laidOut:laidOutB Tryz.prog=true:=by kernel_rfl
set_option maxRecDepth 100000 in
theorem lifted(os:Os)(started:os.Started)(H:Type)(enc:TypeId×Value->H):
  ReturnsInHanded {} Tryz.checked os 3 .any (fun w args=>(Rows.stackTellsSpec.pre enc Tryz.prog Tryz.f3 Rows.stackTellsRow.domain false w args/\laidMetH Tryz.prog laid1 w)/\sizedMet enc Tryz.prog Tryz.f3 (OpenSpec.ofChange Rows.stackTellsSpec) false w args) (Rows.stackTellsSpec.post enc Tryz.prog Tryz.f3 false true false false):=by
 refine returnsInHanded_of_change_and (C:=Tryz.checked) (X:=fun w _=>laidMetH Tryz.prog laid1 w) (fun _ _ _ hh h=>h.of_heap hh) own started (by kernel_rfl) Tryz.func3
  (ChangeSpec.witness_shaped (enc:=enc) (C:=Tryz.checked) (os:=os) (X:=fun w _=>laidMetH Tryz.prog laid1 w) false (World.doorLaid Tryz.prog 400 os) #[.agg #[.int .i64 0, .int .i64 0, .slice none 0 0, .slice none 0 0, .slice none 0 0, .slice none 0 0]] 8 rfl (World.shaped_of_RefB (by kernel_rfl) (by kernel_rfl)) (by kernel_rfl) (by kernel_rfl) (by kernel_rfl) (door_met os _)) ?_
 intro W base args ds gs before hval0 hW _ hsz hL _
 have hval:∀(j:Nat) t v,Tryz.f3.params[j]? =some t->args[j]? =some v->Value.okWide Tryz.prog W .any base t v:=hval0
 have hW':=hW
 obtain⟨p,q,hA0,hV,rfl,hfz,hnd⟩:=hW
 have hA:DataW.TrodAll enc Tryz.prog W 0 (fun _=>true) true Tryz.f3.params.toList args.toList ds p:=hA0
 rw[Tryz.params3] at hA hval hsz
 obtain⟨v0,vs0,d0,ds0,p0,q0,hargs,rfl,rfl,h0,r0⟩:=trodAll_cons hA
 obtain⟨rfl,rfl,rfl⟩:=trodAll_nil r0
 obtain rfl:args=#[v0]:=by cases args;simp_all
 obtain⟨rfl,rfl⟩:=trodVars_none hV
 have k0:=h0
 have lt0:∀x ∈ p0,x.block < W.heap.size:=by obtain⟨m,hm⟩:=k0;exact DataW.trod_lt m _ _ _ hm
 have hsz2:(d0.weights Tryz.prog 29).all (·<=reachBytes)=true:=List.all_eq_true.2 fun n hn=>List.all_eq_true.1 hsz n (DataW.weights_mem_each (j:=0) (t:=29) (d:=d0) rfl rfl n hn)
 obtain⟨b0,b1,Am,Ac,Ap,As,nm,cm,nc,cc,np,cp,ns,cS,mask,cs,ms,sts,rfl,hm,hc,hp,hst,hAm,hAc,hAp,hnm,hnc,hnp,hts,hns⟩:=open_state (hval 0 29 v0 rfl rfl) h0 hsz2
 clear hA0 hval0
 refine(stack_walk b0 b1 Am Ac Ap As nm cm nc cc np cp ns cS mask cs ms sts W (steps_of_laid hL) hm hc hp hst hAm hAc hAp hnm hnc hnp hts hns).mono fun e W' ⟨he,bel⟩=> ?_
 subst he
 exact⟨_,rfl,_,_,_, [],_, [],hW',trodAll_mk1 (shut_bool Tryz.underlying4 _),(trodAll_cons_mk (Below.trod laidOut (by kernel_rfl) (of_decide_eq_true (by kernel_rfl)) k0 bel lt0) trodAll_mk0),rfl,bel.frame _,fun h=>by cases h⟩
theorem over:Rows.stackTellsRow.holds Tryz.pinned (OpenSpec.ofChange Rows.stackTellsSpec):=
 OpenClaim.holds_of_wide 3 Tryz.f3 rfl rfl rfl rfl rfl rfl rfl ⟨rfl,rfl,rfl,rfl,rfl⟩ rfl rfl rfl rfl rfl (by kernel_rfl) Tryz.func3 (by kernel_rfl)
  (of_decide_eq_true (by kernel_rfl)) (by unfold Func.isWrapper;first | (rw[if_pos (by decide+kernel)];kernel_rfl) | (rw[if_neg (by decide+kernel)];exact⟨rfl,rfl⟩))
  (fun os started H enc _=>lifted os started H enc)
/-- ████ THE STATEMENT ████ -/
theorem proved:Rows.StackTellsSaid:=over
end Go.Proofs.YteaeipgfjmnecaaGreatDoor.stackTells

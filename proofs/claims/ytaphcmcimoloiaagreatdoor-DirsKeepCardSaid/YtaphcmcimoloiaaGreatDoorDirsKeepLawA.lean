/-
 DirsKeep: whatever it is given,the call returns true,and each argument reads as it read. Conditions:  the package variables that the row lists start as the program's text lays them (the card ties them).
-/
import Derived.Test.YtaphcmcimoloiaaGreatDoorKeepWalk
set_option maxRecDepth 100000
namespace Go.Proofs.YtaphcmcimoloiaaGreatDoor.dirsKeep
open Go.ChangeShapes Go.WideShapes Go.ChangeAt Go.RowKit
open Go.ChangeMaps (open_string)
theorem contract (H:Type) (enc:TypeId×Value→H) (W:World) (base:Nat) (args:Array Value) (ds gs:List (DataW H)) (before:List MemPlace)
 (hval:∀(j:Nat) t v,Tryz.f11.params[j]? = some t→args[j]? = some v→Value.okWide Tryz.prog W .any base t v)
 (hW:DataW.Whole enc Tryz.prog Tryz.f11.params.toList Rows.dirsKeepSpec.vars false W args.toList ds gs before)
 (hsz:(DataW.weightsEach Tryz.prog (Tryz.f11.params.toList ++ Rows.dirsKeepSpec.plain.varTypes Tryz.prog) (ds ++ gs)).all (·≤reachBytes)=true) (hsh:W.ShapedOpen Tryz.prog) :
 Calls Tryz.prog 11 args W fun e W'=>∃v,e = .returned v∧Rows.dirsKeepSpec.post enc Tryz.prog Tryz.f11 false true false false W args v W':=by
 have hW':=hW
 obtain⟨p,q,hA0,hV,rfl,hfz,hnd⟩:=hW
 have hA:DataW.TrodAll enc Tryz.prog W 0 (fun _=>true) true Tryz.f11.params.toList args.toList ds p:=hA0
 rw[Tryz.params11] at hA hval hsz
 obtain⟨v0,vs0,d0,ds0,p0,q0,hargs,rfl,rfl,h0,r0⟩:=trodAll_cons hA
 obtain⟨rfl,rfl,rfl⟩:=trodAll_nil r0
 obtain rfl:args=#[v0]:=by cases args; simp_all
 obtain⟨rfl,rfl⟩:=trodVars_none hV
 obtain⟨l0,ha0⟩:=open_chgs (hval 0 62 v0 rfl rfl) h0 (fun x hx=>by simpa using hW'.lt x (by simp[hx]))
 clear hA0
 have hmax:MaxOk W:=by first | exact Tryz.laysM146.s1_3 W hsh | exact Tryz.laysM138.s1_3 W hsh | exact Tryz.laysM219.s1_3 W hsh | exact Tryz.laysM143.s1_3 W hsh | exact Tryz.laysM144.s1_3 W hsh
 refine(keep_any W hmax v0 l0 ha0).mono fun e W' ⟨he,hg⟩=>?_
 subst he
 exact⟨_,rfl,frame.post_true frame.laidOut Tryz.underlying4 (by kernel_rfl) rfl rfl hW' rfl hg⟩
noncomputable def world (os:Os):World:=frame.laidWorld [(2,Rows.laid_unicode_utf8_acceptRanges),(1,Rows.laid_unicode_utf8_first)] os
theorem laid_met (os:Os):laidMet Tryz.prog Rows.dirsKeepRow.laid ((world os).forCall (fun _ _=>0) ⟨#[],#[.slice none 0 0],[]⟩).memory:=
 laidMet_of_run' 8 (by kernel_rfl) (by kernel_rfl)
theorem reads (os:Os) {H:Type} (enc:TypeId×Value→H):∃places,DataW.whole enc Tryz.prog ((world os).forCall (fun _ _=>0) ⟨#[],#[.slice none 0 0],[]⟩).memory Tryz.f11.params.toList Rows.dirsKeepSpec.vars false (#[.slice none 0 0]:Array Value).toList 8=some ([.nil],[],places):=
 ⟨[],by kernel_rfl⟩
theorem lifted (os:Os) (started:os.Started) (H:Type) (enc:TypeId×Value→H) (F:Stop.Interp) :
 ReturnsInHanded {} Tryz.checked os 11 .any ((OpenSpec.ofChange Rows.dirsKeepSpec).preRow enc Tryz.prog Tryz.f11 Rows.dirsKeepRow.domain false Rows.dirsKeepRow.laid) (((OpenSpec.ofChange Rows.dirsKeepSpec).at F).post enc Tryz.prog Tryz.f11 false true false false):=by
 obtain⟨places,hx⟩:=reads os enc
 refine returnsInHanded_of_row (C:=Tryz.checked) (s:=(OpenSpec.ofChange Rows.dirsKeepSpec)) frame.own started (by kernel_rfl) Tryz.func11
  (witness_row_at (enc:=enc) (C:=Tryz.checked) false (world os) #[.slice none 0 0] rfl (by kernel_rfl) (by kernel_rfl) (by kernel_rfl)
    (OpenSpec.preRow_of_cond 8 hx (by kernel_rfl) (fun k hk=>by cases hk) (by kernel_rfl) (laid_met os))) ?_
 intro W base args ds gs before hval hW _ _ hsz _ hsh _
 exact contract H enc W base args ds gs before hval hW hsz hsh
end Go.Proofs.YtaphcmcimoloiaaGreatDoor.dirsKeep

import Derived.Test.YtgofmnhfajmbfaaGreatDoorSoundLawWalk
set_option maxRecDepth 100000
namespace Go.Proofs.YtgofmnhfajmbfaaGreatDoor.bmapSound
open Go.ChangeShapes Go.WideShapes Go.ChangeAt Go.RowKit
open Go.ChangeMaps (open_string)
theorem contract (H:Type) (enc:TypeId×Value→H) (W:World) (base:Nat) (args:Array Value) (ds gs:List (DataW H)) (before:List MemPlace)
 (hval:∀(j:Nat) t v,Tryz.f5.params[j]? = some t→args[j]? = some v→Value.okWide Tryz.prog W .any base t v)
 (hW:DataW.Whole enc Tryz.prog Tryz.f5.params.toList Rows.bmapSoundSpec.vars false W args.toList ds gs before)
 (hsz:(DataW.weightsEach Tryz.prog (Tryz.f5.params.toList ++ Rows.bmapSoundSpec.plain.varTypes Tryz.prog) (ds ++ gs)).all (·≤reachBytes)=true) (hsh:W.ShapedOpen Tryz.prog) :
 Calls Tryz.prog 5 args W fun e W'=>∃v,e = .returned v∧Rows.bmapSoundSpec.post enc Tryz.prog Tryz.f5 false true false false W args v W':=by
 have hW':=hW
 obtain⟨p,q,hA0,hV,rfl,hfz,hnd⟩:=hW
 have hA:DataW.TrodAll enc Tryz.prog W 0 (fun _=>true) true Tryz.f5.params.toList args.toList ds p:=hA0
 rw[Tryz.params5] at hA hval hsz
 obtain⟨v0,vs0,d0,ds0,p0,q0,hargs,rfl,rfl,h0,r0⟩:=trodAll_cons hA
 obtain⟨v1,vs1,d1,ds1,p1,q1,rfl,rfl,rfl,h1,r1⟩:=trodAll_cons r0
 obtain⟨rfl,rfl,rfl⟩:=trodAll_nil r1
 obtain rfl:args=#[v0,v1]:=by cases args; simp_all
 obtain⟨rfl,rfl⟩:=trodVars_none hV
 obtain⟨b0,rfl,rfl,rfl⟩:=open_bool Tryz.underlying4 (hval 0 4 v0 rfl rfl) h0
 obtain⟨l1,ha1⟩:=open_dos (hval 1 51 v1 rfl rfl) h1 (fun x hx=>by simpa using hW'.lt x (by simp[hx]))
 clear hA0
 have hmax:MaxOk W:=by first | exact Tryz.laysM146.s1_3 W hsh | exact Tryz.laysM138.s1_3 W hsh | exact Tryz.laysM219.s1_3 W hsh | exact Tryz.laysM143.s1_3 W hsh | exact Tryz.laysM144.s1_3 W hsh
 refine(soundLaw_any W b0 v1 l1 ha1).mono fun e W' ⟨he,hg⟩=>?_
 subst he
 exact⟨_,rfl,frame.post_true frame.laidOut Tryz.underlying4 (by kernel_rfl) rfl rfl hW' rfl hg⟩
noncomputable def world (os:Os):World:=frame.laidWorld [(3,Rows.laid_unicode_utf8_acceptRanges),(2,Rows.laid_unicode_utf8_first)] os
theorem laid_met (os:Os):laidMet Tryz.prog Rows.bmapSoundRow.laid ((world os).forCall (fun _ _=>0) ⟨#[],#[.bool false,.slice none 0 0],[]⟩).memory:=
 laidMet_of_run' 8 (by kernel_rfl) (by kernel_rfl)
theorem reads (os:Os) {H:Type} (enc:TypeId×Value→H):∃places,DataW.whole enc Tryz.prog ((world os).forCall (fun _ _=>0) ⟨#[],#[.bool false,.slice none 0 0],[]⟩).memory Tryz.f5.params.toList Rows.bmapSoundSpec.vars false (#[.bool false,.slice none 0 0]:Array Value).toList 8=some ([.lit (.bool false),.nil],[],places):=
 ⟨[],by kernel_rfl⟩
theorem lifted (os:Os) (started:os.Started) (H:Type) (enc:TypeId×Value→H) (F:Stop.Interp) :
 ReturnsInHanded {} Tryz.checked os 5 .any ((OpenSpec.ofChange Rows.bmapSoundSpec).preRow enc Tryz.prog Tryz.f5 Rows.bmapSoundRow.domain false Rows.bmapSoundRow.laid) (((OpenSpec.ofChange Rows.bmapSoundSpec).at F).post enc Tryz.prog Tryz.f5 false true false false):=by
 obtain⟨places,hx⟩:=reads os enc
 refine returnsInHanded_of_row (C:=Tryz.checked) (s:=(OpenSpec.ofChange Rows.bmapSoundSpec)) frame.own started (by kernel_rfl) Tryz.func5
  (witness_row_at (enc:=enc) (C:=Tryz.checked) false (world os) #[.bool false,.slice none 0 0] rfl (by kernel_rfl) (by kernel_rfl) (by kernel_rfl)
    (OpenSpec.preRow_of_cond 8 hx (by kernel_rfl) (fun k hk=>by cases hk) (by kernel_rfl) (laid_met os))) ?_
 intro W base args ds gs before hval hW _ _ hsz _ hsh _
 exact contract H enc W base args ds gs before hval hW hsz hsh

import Derived.Test.YtmljdnlmpiklgaaGreatDoorDumpLoadsWalk
import Derived.Test.YtmljdnlmpiklgaaGreatDoorOpenGeom
set_option maxRecDepth 100000
namespace Go.Proofs.YtmljdnlmpiklgaaGreatDoor.dumpLoads
open Go.ChangeShapes Go.WideShapes Go.ChangeAt Go.RowKit
open Go.ChangeMaps (open_string)
theorem contract (H:Type) (enc:TypeId×Value→H) (W:World) (base:Nat) (args:Array Value) (ds gs:List (DataW H)) (before:List MemPlace)
 (hval:∀(j:Nat) t v,Tryz.f3.params[j]? = some t→args[j]? = some v→Value.okWide Tryz.prog W .any base t v)
 (hW:DataW.Whole enc Tryz.prog Tryz.f3.params.toList Rows.dumpLoadsSpec.vars false W args.toList ds gs before)
 (hsz:(DataW.weightsEach Tryz.prog (Tryz.f3.params.toList ++ Rows.dumpLoadsSpec.plain.varTypes Tryz.prog) (ds ++ gs)).all (·≤reachBytes)=true) (hlaid:laidMetH Tryz.prog Rows.dumpLoadsRow.laid W) (hsh:W.ShapedOpen Tryz.prog) :
 Calls Tryz.prog 3 args W fun e W'=>∃v,e = .returned v∧Rows.dumpLoadsSpec.post enc Tryz.prog Tryz.f3 false true false false W args v W':=by
 have hW':=hW
 obtain⟨p,q,hA0,hV,rfl,hfz,hnd⟩:=hW
 have hA:DataW.TrodAll enc Tryz.prog W 0 (fun _=>true) true Tryz.f3.params.toList args.toList ds p:=hA0
 rw[Tryz.params3] at hA hval hsz
 obtain⟨v0,vs0,d0,ds0,p0,q0,hargs,rfl,rfl,h0,r0⟩:=trodAll_cons hA
 obtain⟨v1,vs1,d1,ds1,p1,q1,rfl,rfl,rfl,h1,r1⟩:=trodAll_cons r0
 obtain⟨rfl,rfl,rfl⟩:=trodAll_nil r1
 obtain rfl:args=#[v0,v1]:=by cases args; simp_all
 obtain⟨rfl,rfl⟩:=trodVars_none hV
 obtain⟨g0,rfl,rfl,rfl⟩:=open_geom (hval 0 23 v0 rfl rfl) h0
 obtain⟨s1,rfl,rfl,rfl,hm1⟩:=open_string Tryz.underlying9 (hval 1 9 v1 rfl rfl) h1
 clear hA0
 have htab : TabOk W := tabOk_of_laid (by kernel_rfl) (show ("internal/strconv.uint64pow10", Lib.tabData .u64 Lib.pow10Tab) ∈ Rows.dumpLoadsRow.laid from List.mem_of_getElem? (i := 2) (by kernel_rfl)) hlaid
 have hmax:MaxOk W:=by first | exact Tryz.laysM146.s1_3 W hsh | exact Tryz.laysM138.s1_3 W hsh | exact Tryz.laysM219.s1_3 W hsh | exact Tryz.laysM143.s1_3 W hsh | exact Tryz.laysM144.s1_3 W hsh | exact Tryz.laysM171.s1_3 W hsh | exact Tryz.laysM243.s1_3 W hsh | exact Tryz.laysM246.s1_3 W hsh | exact Tryz.laysM284.s1_3 W hsh
 refine(dumpLoads_any W g0 s1 htab hmax).mono fun e W' ⟨he,hg⟩=>?_
 subst he
 exact⟨_,rfl,frame.post_true frame.laidOut Tryz.underlying4 (by kernel_rfl) rfl rfl hW' rfl hg⟩
noncomputable def world (os:Os):World:=frame.laidWorldE [(6,Rows.laid_math_bits_deBruijn32tab),(7,Rows.laid_math_bits_deBruijn64tab),(3,Rows.laid_internal_strconv_uint64pow10),(2,Rows.laid_unicode_utf8_acceptRanges),(1,Rows.laid_unicode_utf8_first)] 5 4 [118,97,108,117,101,32,111,117,116,32,111,102,32,114,97,110,103,101] [105,110,118,97,108,105,100,32,115,121,110,116,97,120] os
theorem laid_met (os:Os):laidMet Tryz.prog Rows.dumpLoadsRow.laid ((world os).forCall (fun _ _=>0) ⟨#[],#[.agg #[.int .i64 0,.int .i64 0,.int .i64 0],.string .empty],[]⟩).memory:=
 laidMet_of_run' 8 (by kernel_rfl) (by kernel_rfl)
theorem reads (os:Os) {H:Type} (enc:TypeId×Value→H):∃places,DataW.whole enc Tryz.prog ((world os).forCall (fun _ _=>0) ⟨#[],#[.agg #[.int .i64 0,.int .i64 0,.int .i64 0],.string .empty],[]⟩).memory Tryz.f3.params.toList Rows.dumpLoadsSpec.vars false (#[.agg #[.int .i64 0,.int .i64 0,.int .i64 0],.string .empty]:Array Value).toList 8=some ([.agg [.lit (.int .i64 0),.lit (.int .i64 0),.lit (.int .i64 0)],.lit (.string [])],[],places):=
 ⟨[],by kernel_rfl⟩
theorem lifted (os:Os) (started:os.Started) (H:Type) (enc:TypeId×Value→H) (F:Stop.Interp) :
 ReturnsInHanded {} Tryz.checked os 3 .any ((OpenSpec.ofChange Rows.dumpLoadsSpec).preRow enc Tryz.prog Tryz.f3 Rows.dumpLoadsRow.domain false Rows.dumpLoadsRow.laid) (((OpenSpec.ofChange Rows.dumpLoadsSpec).at F).post enc Tryz.prog Tryz.f3 false true false false):=by
 obtain⟨places,hx⟩:=reads os enc
 refine returnsInHanded_of_row (C:=Tryz.checked) (s:=(OpenSpec.ofChange Rows.dumpLoadsSpec)) frame.own started (by kernel_rfl) Tryz.func3
  (witness_row_at (enc:=enc) (C:=Tryz.checked) false (world os) #[.agg #[.int .i64 0,.int .i64 0,.int .i64 0],.string .empty] rfl (by kernel_rfl) (by kernel_rfl) (by kernel_rfl)
    (OpenSpec.preRow_of_cond 8 hx (by kernel_rfl) (fun k hk=>by cases hk) (by kernel_rfl) (laid_met os))) ?_
 intro W base args ds gs before hval hW _ _ hsz hlaid hsh _
 exact contract H enc W base args ds gs before hval hW hsz hlaid hsh
theorem said:Rows.DumpLoadsSaid:=
 OpenClaim.holds_of_cond 3 Tryz.f3 rfl rfl rfl rfl rfl rfl rfl ⟨rfl,rfl,rfl,rfl,rfl⟩ rfl rfl rfl rfl rfl (by kernel_rfl) Tryz.func3 (by kernel_rfl)
  (of_decide_eq_true (by kernel_rfl)) (by unfold Func.isWrapper; first | (rw[if_pos (by decide +kernel)]; kernel_rfl) | (rw[if_neg (by decide +kernel)]; exact⟨rfl,rfl⟩))
  (fun os started H enc _ F=>by rw[OpenClaim.pre_eq_preRow]; exact lifted os started H enc F)
theorem plain (f:FuncId) (fn:Func) (hf:Tryz.pinned.checked.prog.funcNamed Rows.dumpLoadsRow.func=some f) (hfn:Tryz.pinned.checked.prog.funcs[f]? = some fn) :
 true=Tryz.pinned.checked.prog.looks []∧∀(j:Nat) t,fn.params[j]? = some t→Tryz.pinned.checked.prog.wantsStandIn t=false:=by
 obtain rfl:f=3:=Option.some.inj ((show Tryz.prog.funcNamed Rows.dumpLoadsRow.func=some 3 by kernel_rfl).symm.trans hf) |>.symm
 obtain rfl:fn=Tryz.f3:=(Option.some.inj (Tryz.func3.symm.trans hfn)).symm
 refine⟨by kernel_rfl,fun j t ht=>?_⟩
 have hall:Tryz.f3.params.toList.all (fun t=>!Tryz.prog.wantsStandIn t)=true:=by kernel_rfl
 have h:=List.all_eq_true.1 hall t (List.mem_of_getElem? (by rw[Array.getElem?_toList]; exact ht))
 exact Bool.not_eq_true' _ |>.mp h
theorem card:Rows.DumpLoadsCardSaid:=
 Claim7.holds_tied_plain_at .later [] _ _ _ _ said (fun _ h=>by cases h) (by kernel_rfl) (fun _ h=>by cases h) dumpLoads_row_tie rfl ⟨rfl,rfl⟩ (by kernel_rfl) rfl plain (by kernel_rfl)

import Derived.Test.YtgofmnhfajmbfaaGreatDoorOpenGeom
import Derived.Test.YtgofmnhfajmbfaaGreatDoorTurnedWalk
set_option maxRecDepth 100000
namespace Go.Proofs.YtgofmnhfajmbfaaGreatDoor.dumpTurned
open Go.ChangeShapes Go.WideShapes Go.ChangeAt Go.RowKit
open Go.ChangeMaps (open_string)
theorem contract (H:Type) (enc:TypeId×Value→H) (W:World) (base:Nat) (args:Array Value) (ds gs:List (DataW H)) (before:List MemPlace)
 (hval:∀(j:Nat) t v,Tryz.f4.params[j]? = some t→args[j]? = some v→Value.okWide Tryz.prog W .any base t v)
 (hW:DataW.Whole enc Tryz.prog Tryz.f4.params.toList Rows.dumpTurnedSpec.vars false W args.toList ds gs before)
 (hsz:(DataW.weightsEach Tryz.prog (Tryz.f4.params.toList ++ Rows.dumpTurnedSpec.plain.varTypes Tryz.prog) (ds ++ gs)).all (·≤reachBytes)=true) (hlaid:laidMetH Tryz.prog Rows.dumpTurnedRow.laid W) (hsh:W.ShapedOpen Tryz.prog) :
 Calls Tryz.prog 4 args W fun e W'=>∃v,e = .returned v∧Rows.dumpTurnedSpec.post enc Tryz.prog Tryz.f4 false true false false W args v W':=by
 have hW':=hW
 obtain⟨p,q,hA0,hV,rfl,hfz,hnd⟩:=hW
 have hA:DataW.TrodAll enc Tryz.prog W 0 (fun _=>true) true Tryz.f4.params.toList args.toList ds p:=hA0
 rw[Tryz.params4] at hA hval hsz
 obtain⟨v0,vs0,d0,ds0,p0,q0,hargs,rfl,rfl,h0,r0⟩:=trodAll_cons hA
 obtain⟨v1,vs1,d1,ds1,p1,q1,rfl,rfl,rfl,h1,r1⟩:=trodAll_cons r0
 obtain⟨v2,vs2,d2,ds2,p2,q2,rfl,rfl,rfl,h2,r2⟩:=trodAll_cons r1
 obtain⟨rfl,rfl,rfl⟩:=trodAll_nil r2
 obtain rfl:args=#[v0,v1,v2]:=by cases args; simp_all
 obtain⟨rfl,rfl⟩:=trodVars_none hV
 obtain⟨g0,rfl,rfl,rfl⟩:=open_geom (hval 0 23 v0 rfl rfl) h0
 obtain⟨l1,ht1,hz1,hd1,hn1⟩:=frame.open_texts (hval 1 24 v1 rfl rfl) h1 (fun x hx=>by simpa using hW'.lt x (by simp[hx]))
 obtain⟨x2,y2,rfl,rfl,rfl⟩:=open_ints2 (hval 2 41 v2 rfl rfl) h2
 clear hA0
 have hr1:l1.length*16≤140737488351232:=by
  rcases hd1 with ⟨rfl,rfl⟩ | ⟨sp,rfl⟩
  ·simp
  ·have:=sized_slice hsz (j:=1) (t:=24) (e:=9) rfl rfl Tryz.underlying24
   rw[show Tryz.prog.bytesOf 9=16 by kernel_rfl] at this
   simp only[strs,List.length_map,reachBytes] at this
   omega
 have htab : TabOk W := tabOk_of_laid (by kernel_rfl) (show ("internal/strconv.uint64pow10", Lib.tabData .u64 Lib.pow10Tab) ∈ Rows.dumpTurnedRow.laid from List.mem_of_getElem? (i := 2) (by kernel_rfl)) hlaid
 have hmax:MaxOk W:=by first | exact Tryz.laysM146.s1_3 W hsh | exact Tryz.laysM138.s1_3 W hsh | exact Tryz.laysM219.s1_3 W hsh | exact Tryz.laysM143.s1_3 W hsh | exact Tryz.laysM144.s1_3 W hsh | exact Tryz.laysM171.s1_3 W hsh | exact Tryz.laysM243.s1_3 W hsh | exact Tryz.laysM246.s1_3 W hsh | exact Tryz.laysM284.s1_3 W hsh
 refine(dumpTurned_any W g0 v1 l1 x2 y2 ht1 htab hmax).mono fun e W' ⟨he,hg⟩=>?_
 subst he
 exact⟨_,rfl,frame.post_true frame.laidOut Tryz.underlying4 (by kernel_rfl) rfl rfl hW' rfl hg⟩
noncomputable def world (os:Os):World:=frame.laidWorld [(4,Rows.laid_math_bits_deBruijn32tab),(5,Rows.laid_math_bits_deBruijn64tab),(1,Rows.laid_internal_strconv_uint64pow10),(3,Rows.laid_unicode_utf8_acceptRanges),(2,Rows.laid_unicode_utf8_first)] os
theorem laid_met (os:Os):laidMet Tryz.prog Rows.dumpTurnedRow.laid ((world os).forCall (fun _ _=>0) ⟨#[],#[.agg #[.int .i64 0,.int .i64 0,.int .i64 0],.slice none 0 0,.agg #[.int .i64 0,.int .i64 0]],[]⟩).memory:=
 laidMet_of_run' 8 (by kernel_rfl) (by kernel_rfl)
theorem reads (os:Os) {H:Type} (enc:TypeId×Value→H):∃places,DataW.whole enc Tryz.prog ((world os).forCall (fun _ _=>0) ⟨#[],#[.agg #[.int .i64 0,.int .i64 0,.int .i64 0],.slice none 0 0,.agg #[.int .i64 0,.int .i64 0]],[]⟩).memory Tryz.f4.params.toList Rows.dumpTurnedSpec.vars false (#[.agg #[.int .i64 0,.int .i64 0,.int .i64 0],.slice none 0 0,.agg #[.int .i64 0,.int .i64 0]]:Array Value).toList 8=some ([.agg [.lit (.int .i64 0),.lit (.int .i64 0),.lit (.int .i64 0)],.nil,.agg [.lit (.int .i64 0),.lit (.int .i64 0)]],[],places):=
 ⟨[],by kernel_rfl⟩
theorem lifted (os:Os) (started:os.Started) (H:Type) (enc:TypeId×Value→H) (F:Stop.Interp) :
 ReturnsInHanded {} Tryz.checked os 4 .any ((OpenSpec.ofChange Rows.dumpTurnedSpec).preRow enc Tryz.prog Tryz.f4 Rows.dumpTurnedRow.domain false Rows.dumpTurnedRow.laid) (((OpenSpec.ofChange Rows.dumpTurnedSpec).at F).post enc Tryz.prog Tryz.f4 false true false false):=by
 obtain⟨places,hx⟩:=reads os enc
 refine returnsInHanded_of_row (C:=Tryz.checked) (s:=(OpenSpec.ofChange Rows.dumpTurnedSpec)) frame.own started (by kernel_rfl) Tryz.func4
  (witness_row_at (enc:=enc) (C:=Tryz.checked) false (world os) #[.agg #[.int .i64 0,.int .i64 0,.int .i64 0],.slice none 0 0,.agg #[.int .i64 0,.int .i64 0]] rfl (by kernel_rfl) (by kernel_rfl) (by kernel_rfl)
    (OpenSpec.preRow_of_cond 8 hx (by kernel_rfl) (fun k hk=>by cases hk) (by kernel_rfl) (laid_met os))) ?_
 intro W base args ds gs before hval hW _ _ hsz hlaid hsh _
 exact contract H enc W base args ds gs before hval hW hsz hlaid hsh
